/- Package sample: ways. -/
import Derived.Test.YtdknpekbonmmhaaGreatDoorNatD
import Derived.Test.YtdknpekbonmmhaaGreatDoorHyper
import Derived.Deep.AppendLies
import Derived.Deep.DrawnRows
import Derived.Deep.RegionLaw
namespace Go.Proofs.YtdknpekbonmmhaaGreatDoor
set_option linter.unusedVariables false
set_option linter.unusedSimpArgs false
open Go.RowKit

theorem over_calls' (w : World) (a : Value) (x L K : Nat) (k : Int) (hk : k = (K : Int)) (hx : IsNat w a x L) (hL : L ≤ 1000000) (hK : 0 < K) (hK2 : K < 4294967296) :
    Calls Tryz.prog 364 #[a, .int .u32 k] w (NatPost w (x / K) L) := by
  subst hk
  exact over_calls w a x L K hx hL hK hK2

theorem IsNat.form {w : World} {v : Value} {x L : Nat} (h : IsNat w v x L) : ∃ A n c, v = .slice A n c := by
  obtain ⟨ds, h1, _⟩ := h
  exact h1.form
theorem IsNat.grown {w w' : World} {v u : Value} {x L base n : Nat} {ys : List Value} (h : IsNat w v x L) (hown : w.ownsRow base 335 1 u n ys) (hg : w.grownBy w' u.ownBlock) : IsNat w' v x L := by
  obtain ⟨ds, h1, h2⟩ := h
  exact ⟨ds, h1.grown hown hg (by decide), h2⟩
/-- A slice of naturals. -/
def NatsAt (w : World) (v : Value) (fs : List Nat) (L : Nat) : Prop :=
  ∃ vs : List Value, Sl w 335 1 v vs ∧ vs.length = fs.length ∧ ∀ i u, vs[i]? = some u → IsNat w u (fs.getD i 0) L
def NatsPost (w : World) (fs : List Nat) (L : Nat) (e : Ending) (w' : World) : Prop := ∃ v, e = .returned v ∧ NatsAt w' v fs L ∧ Pure w w'
theorem NatsAt.pure {w w' : World} {v : Value} {fs : List Nat} {L : Nat} (h : NatsAt w v fs L) (hm : Pure w w') : NatsAt w' v fs L := by
  obtain ⟨vs, h1, h2, h3⟩ := h
  exact ⟨vs, h1.pure hm, h2, fun i u hu => (h3 i u hu).pure hm⟩

def chs (n K : Nat) : List Nat := (List.range (K + 1)).map (ch n)
def WaysRel (w : World) (n K gk : Nat) (l i : Value) (wr : World) : Prop :=
  ∃ (j g cap : Nat) (vs : List Value), K - j = gk ∧ j ≤ K ∧ i = .int .i64 ((j : Int) + 1) ∧ l = .slice (some ⟨g, 0, none⟩) (j + 1) cap ∧
    wr.ownsRow w.heap.size 335 1 (.slice (some ⟨g, 0, none⟩) (j + 1) cap) (j + 1) vs ∧ (∀ k u, vs[k]? = some u → IsNat wr u (ch n k) (3 * (k + 1))) ∧ Pure w wr

theorem info_natural : (Tryz.prog.info? 335).map (fun i => (i.zero, i.size, i.bytes)) = some (some (.slice none 0 0), 1, 24) := by kernel_rfl

set_option maxRecDepth 100000 in
set_option maxHeartbeats 2000000 in
theorem ways_calls (w : World) (n K : Nat) (hn : n ≤ 100000) (hK : K ≤ 1000) :
    Calls Tryz.prog 323 #[.int .i64 (n : Int), .int .i64 (K : Int)] w (NatsPost w (chs n K) (3 * (K + 1))) := by
  obtain ⟨i0, hi0, hz0, hz1, hz2⟩ := info_parts info_natural
  go_enter Tryz.func323, Tryz.ntmps323
  go_wp2_with fail
  refine (newNatural_calls _ 1 (by omega)).mono ?_
  rintro e w1 ⟨v, rfl, hv, hm1⟩
  obtain ⟨A, m, c, rfl⟩ := hv.form
  go_wp2_with fail
  go_loopg [5, 6] K (fun gk l i wr => WaysRel w n K gk l i wr)
  case atStart =>
    refine ⟨0, w1.heap.size, 1, [.slice A m c], by omega, by omega, rfl, rfl, ⟨by simp, .inr ⟨_, 1, #[.slice A m c], rfl, hm1.size, heap_alloc_new w1 _, by omega, by simp [maxLen], by simp, by simp⟩⟩, ?_, hm1.alloc _⟩
    intro k u hu
    cases k with
    | zero =>
      simp at hu
      subst hu
      rw [ch_zero]
      exact hv.pure ((Mod.refl _ _).alloc _)
    | succ k => simp at hu
  case round =>
    obtain ⟨j, g, cap, vs, rfl, hj, rfl, rfl, hown, hvs, hm⟩ := hrel
    by_cases hlt : j + 1 ≤ K
    · have hlen : vs.length = j + 1 := by have := hown.1; omega
      obtain ⟨u, hu⟩ : ∃ u, vs[j]? = some u := ⟨vs[j]'(by omega), List.getElem?_eq_getElem (by omega)⟩
      have hun := hvs j u hu
      have hcell : wr.cell? ⟨g, j, none⟩ = some u := by
        obtain ⟨A, n', c', hv', _, _, _, h4⟩ := Sl.of_own hown
        injection hv' with ha hb hc
        obtain ⟨g', off, hA, hr⟩ := h4 (by omega)
        rw [← ha] at hA
        injection hA with hA
        injection hA with h1 h2
        have := hr.cell hu
        rw [← h1, ← h2, Nat.zero_add] at this
        exact this
      have i1 : (0 : Int) ≤ (j : Int) := by omega
      have i2 : (j : Int) < (j : Int) + 1 := by omega
      obtain ⟨q, hq⟩ : ∃ q : Nat, (if 0 < (n : Int) - ((j : Int) + 1) + 1 then (n : Int) - ((j : Int) + 1) + 1 else 0) = (q : Int) ∧ q = n - j := by
        refine ⟨n - j, ?_, rfl⟩
        split <;> omega
      obtain ⟨hq, hq2⟩ := hq
      have HQ2 := Lib.hid hq2
      have hqb : q ≤ 100000 := by omega
      have HVS := Lib.hid hvs
      have HU := Lib.hid hu
      have HL := Lib.hid hlen
      clear hvs hu hlen hq2
      have e1 : IntKind.i64.wrap (j : Int) = (j : Int) := IntWalk.i64_in _ (by omega)
      have e2 : IntKind.i64.wrap ((n : Int) - ((j : Int) + 1)) = (n : Int) - ((j : Int) + 1) := IntWalk.i64_in _ (by omega)
      have e3 : IntKind.i64.wrap ((n : Int) - ((j : Int) + 1) + 1) = (n : Int) - ((j : Int) + 1) + 1 := IntWalk.i64_in _ (by omega)
      have e4 : IntKind.u32.wrap ((j : Int) + 1) = (j : Int) + 1 := by rw [IntKind.wrap_u32]; omega
      go_wp2_with fail
      have hsz := hm.size
      go_region_law (first
        | (refine step_append_lies _ (by rfl) _ _ _ (by rfl) w.heap.size 335 i0 _ 1 24 Tryz.underlying332 hi0 hz0 hz1 hz2 rfl (by omega) (.slice (some ⟨g, 0, none⟩) (j + 1) cap) (j + 1) vs (by rfl) (own_pure hown4 ((Mod.refl _ _).alloc _)) ⟨w4.heap.size, 0, none⟩ 1 1 [.slice A4 m4 c4] (by rfl) (by rfl) (World.news_of_block (cs := #[.slice A4 m4 c4]) (t := 335) (fr := (0, 0)) (heap_alloc_new w4 _)) (by simp [Value.oneCell']) (by omega) (by simp [maxLen]; omega) (by omega) (by have := hM4.size; simp; omega) (w4.heap.size + 1) (by simp) ?_; intro g5 cap5 w5 hown5 hgrow hat hlt5)
        | (go_simp; go_at_call 326; refine (newNatural_calls _ q (by omega)).mono ?_; rintro e w2 ⟨v2, rfl, hv2, hm2⟩; have hM2 : Pure wr w2 := (Mod.drew (Mod.refl _ _)).trans hm2; have hcell2 := hM2.keep hcell id)
        | (go_simp; go_at_call 325; refine (times_calls _ _ _ _ _ _ _ (hun.pure hM2) hv2 (by omega) (by omega)).mono ?_; rintro e w3 ⟨v3, rfl, hv3, hm3⟩)
        | (go_simp; go_at_call 364; refine (over_calls' _ _ _ _ (j + 1) _ (by omega) hv3 (by omega) (by omega) (by omega)).mono ?_; rintro e w4 ⟨v4, rfl, hv4, hm4⟩; obtain ⟨A4, m4, c4, rfl⟩ := hv4.form; have hM4 : Pure wr w4 := hM2.trans (hm3.trans hm4); have hown4 := own_pure hown hM4))
      all_goals
        go_wp2_with fail
        go_roundg (K - (j + 1))
        case measure => omega
        case rel =>
          refine ⟨j + 1, g5, cap5, vs ++ [.slice A4 m4 c4], by omega, hlt, by simp, rfl, hown5, ?_, ?_⟩
          · intro k u' hu'
            have hk := HL.out
            rcases Nat.lt_or_ge k (j + 1) with h | h
            · rw [List.getElem?_append_left (by omega)] at hu'
              exact (((HVS.out k u' hu').pure hM4).pure ((Mod.refl _ _).alloc _)).grown (own_pure hown4 ((Mod.refl _ _).alloc _)) hgrow
            · rw [List.getElem?_append_right (by omega)] at hu'
              have : k - vs.length = 0 := by
                rcases Nat.eq_zero_or_pos (k - vs.length) with h0 | h0
                · exact h0
                · rw [List.getElem?_eq_none (by simp; omega)] at hu'
                  cases hu'
              have hkj : k = j + 1 := by omega
              subst hkj
              rw [this] at hu'
              simp at hu'
              subst hu'
              have := (hv4.pure ((Mod.refl _ _).alloc _)).grown (own_pure hown4 ((Mod.refl _ _).alloc _)) hgrow
              rw [HQ2.out, ch_step] at this
              exact this.more (by omega)
          · exact ((hm.trans hM4).alloc _).grown hgrow (fun k hk => .inr (own_block hown k hk))
    · have hjK : j = K := by omega
      subst hjK
      go_wp2_with fail
      go_ret
      refine ⟨_, rfl, ⟨vs, Sl.of_own hown, ?_, fun i u hu => ?_⟩, hm⟩
      · have := hown.1
        simp [chs]
        omega
      · have hi : i < j + 1 := by
          have := hown.1
          have h2 := (List.getElem?_eq_some_iff.1 hu).1
          omega
        have := hvs i u hu
        rw [show (chs n j).getD i 0 = ch n i by simp [chs, List.getD, hi]]
        exact this.more (by omega)

end Go.Proofs.YtdknpekbonmmhaaGreatDoor
