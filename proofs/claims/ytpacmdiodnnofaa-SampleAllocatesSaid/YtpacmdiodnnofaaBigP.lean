/- The reference's numbers: plus, cmp. -/
import Derived.Test.YtpacmdiodnnofaaBig
import Derived.Test.YtpacmdiodnnofaaNatD
namespace Go.Proofs.Ytpacmdiodnnofaa
set_option linter.unusedVariables false
set_option linter.unusedSimpArgs false
open Go.RowKit

def PlRel (w : World) (xs ys : List Nat) (M gk : Nat) (o cy i : Value) (wr : World) : Prop :=
  ∃ (k c : Nat) (us : List Nat) (A : Option Addr) (cap : Nat), M + 2 - k = gk ∧ k ≤ M + 1 ∧ (k ≤ M ∨ c = 0) ∧ cy = .int .i64 (c : Int) ∧ c ≤ 1 ∧ i = .int .i64 (k : Int) ∧ us.length = k ∧ (∀ d ∈ us, d < 1000000000) ∧
    val B9 us + B9 ^ k * c = val B9 (xs.take k) + val B9 (ys.take k) ∧ o = .slice A k cap ∧ wr.ownsRow w.heap.size 3 1 (.slice A k cap) k (intsN us) ∧ Pure w wr

theorem pl_next {w wr : World} {xs ys us : List Nat} {M k c r q : Nat} {A : Option Addr} {cap : Nat} (hk : k ≤ M) (hxM : xs.length ≤ M) (hyM : ys.length ≤ M) (hul : us.length = k) (hud : ∀ d ∈ us, d < 1000000000)
    (hval : val B9 us + B9 ^ k * c = val B9 (xs.take k) + val B9 (ys.take k)) (hc : c ≤ 1) (hx : xs.getD k 0 < 1000000000) (hy : ys.getD k 0 < 1000000000)
    (hr : (c + xs.getD k 0 + ys.getD k 0) % B9 = r) (hq : (c + xs.getD k 0 + ys.getD k 0) / B9 = q) (hrb : r < 1000000000) (hqb : q ≤ 1)
    (hown : wr.ownsRow w.heap.size 3 1 (.slice A (k + 1) cap) (k + 1) (intsN us ++ [.int .i64 (r : Int)])) (hm : Pure w wr) :
    PlRel w xs ys M (M + 2 - (k + 1)) (.slice A (k + 1) cap) (.int .i64 (q : Int)) (.int .i64 ((k : Int) + 1)) wr := by
  refine ⟨k + 1, q, us ++ [r], A, cap, rfl, by omega, ?_, rfl, hqb, by simp, by simp [hul], mem_snoc_lt hud hrb, ?_, rfl, by rw [← intsN_snoc]; exact hown, hm⟩
  · rcases Nat.lt_or_ge k M with h | h
    · exact .inl (by omega)
    · right
      rw [getD_ge (by omega), getD_ge (by omega)] at hq
      rw [← hq]
      exact Nat.div_eq_of_lt (by rw [B9_eq]; omega)
  · have hst := add_step B9 k c (xs.getD k 0) (ys.getD k 0) _ _ _ hval
    rw [hr, hq, ← val_take_succ, ← val_take_succ] at hst
    rw [val_snoc, hul]
    exact hst
theorem pl_done {w : World} {xs ys us : List Nat} {M k L : Nat} {v : Value} (hk : M ≤ k) (hkM : k ≤ M + 1) (hxM : xs.length ≤ M) (hyM : ys.length ≤ M) (hML : M ≤ L) (hul : us.length = k) (hud : ∀ d ∈ us, d < 1000000000)
    (hval : val B9 us + B9 ^ k * 0 = val B9 (xs.take k) + val B9 (ys.take k)) (hs : Sl w 3 1 v (intsN us)) : IsBig w v (val B9 xs + val B9 ys) (L + 1) := by
  rw [Nat.mul_zero, Nat.add_zero, List.take_of_length_le (by omega), List.take_of_length_le (by omega)] at hval
  exact ⟨us, hs, hud, hval, by omega⟩

set_option maxRecDepth 100000 in
set_option maxHeartbeats 1000000 in
theorem bplus_calls (w : World) (a b : Value) (x y L : Nat) (hx : IsBig w a x L) (hy : IsBig w b y L) (hL : L ≤ 1000000) :
    Calls Try.prog 116 #[a, b] w (BigPost w (x + y) (L + 1)) := by
  obtain ⟨i0, hi0, hz0, hz1', hz2'⟩ := info_parts info_int
  obtain ⟨xs, ⟨A1, n1, c1, rfl, hc1, hc1', hl1, hr1⟩, hd1, rfl, hxl⟩ := hx
  obtain ⟨ys, ⟨A2, n2, c2, rfl, hc2, hc2', hl2, hr2⟩, hd2, rfl, hyl⟩ := hy
  rw [intsN_length, Nat.mul_one] at hl1 hl2
  subst hl1 hl2
  obtain ⟨M, hM⟩ : ∃ M : Nat, (if xs.length < ys.length then (ys.length : Int) else xs.length) = (M : Int) ∧ xs.length ≤ M ∧ ys.length ≤ M ∧ M ≤ L ∧ (M = xs.length ∨ M = ys.length) := by
    by_cases h : xs.length < ys.length
    · exact ⟨ys.length, by simp [h], by omega, by omega, by omega, by omega⟩
    · exact ⟨xs.length, by simp [h], by omega, by omega, by omega, by omega⟩
  obtain ⟨hM, hM1, hM2, hM3, hM4⟩ := hM
  have HM4 := Lib.hid hM4
  clear hM4
  have HD1 := Lib.hid hd1
  have HD2 := Lib.hid hd2
  have HR1 := Lib.hid hr1
  have HR2 := Lib.hid hr2
  clear hd1 hd2 hr1 hr2
  go_enter Try.func116, Try.ntmps116
  go_wp2_with fail
  go_loopg [5, 6, 7] (M + 2) (fun gk o cy i wr => PlRel w xs ys M gk o cy i wr)
  case atStart => exact ⟨0, 0, [], none, 0, by omega, by omega, .inl (by omega), rfl, by omega, rfl, rfl, by simp, by simp [val_nil], rfl, ⟨by simp [intsN], .inl ⟨rfl, rfl⟩⟩, Mod.refl _ _⟩
  case round =>
    obtain ⟨i, c, us, A, cap, rfl, hi, hic, rfl, hcy, rfl, hul, hud, hval, rfl, hown, hm⟩ := hrel
    have HUL := Lib.hid hul
    have HUD := Lib.hid hud
    have HV := Lib.hid hval
    have HIC := Lib.hid hic
    clear hul hud hval hic
    by_cases hgo : i < M ∨ 0 < c
    · have hiM : i ≤ M := by have := HIC.out; omega
      have hb1 := getD_lt (B := 1000000000) (by omega) HD1.out i
      have hb2 := getD_lt (B := 1000000000) (by omega) HD2.out i
      have hq1 : i < xs.length → ∃ g off, A1 = some ⟨g, off, none⟩ ∧ wr.cell? ⟨g, off + i, none⟩ = some (.int .i64 ((xs.getD i 0 : Nat) : Int)) := by
        intro h
        obtain ⟨g, off, hA, hr⟩ := HR1.out (by omega)
        exact ⟨g, off, hA, (hr.mod hm id).cell (intsN_get xs i h)⟩
      have hq2 : i < ys.length → ∃ g off, A2 = some ⟨g, off, none⟩ ∧ wr.cell? ⟨g, off + i, none⟩ = some (.int .i64 ((ys.getD i 0 : Nat) : Int)) := by
        intro h
        obtain ⟨g, off, hA, hr⟩ := HR2.out (by omega)
        exact ⟨g, off, hA, (hr.mod hm id).cell (intsN_get ys i h)⟩
      have hz1 : xs.length ≤ i → xs.getD i 0 = 0 := fun h => getD_ge h
      have hz2 : ys.length ≤ i → ys.getD i 0 = 0 := fun h => getD_ge h
      obtain ⟨d1, h1⟩ : ∃ d, xs.getD i 0 = d := ⟨_, rfl⟩
      obtain ⟨d2, h2⟩ : ∃ d, ys.getD i 0 = d := ⟨_, rfl⟩
      rw [h1] at hb1 hq1 hz1
      rw [h2] at hb2 hq2 hz2
      obtain ⟨r, hr⟩ : ∃ r, (c + d1 + d2) % 1000000000 = r := ⟨_, rfl⟩
      obtain ⟨q, hq⟩ : ∃ q, (c + d1 + d2) / 1000000000 = q := ⟨_, rfl⟩
      have hrb : r < 1000000000 := by omega
      have hqb : q ≤ 1 := by omega
      have hrem : ((c : Int) + (d1 : Int) + (d2 : Int)) % 1000000000 = (r : Int) := by omega
      have hquo : ((c : Int) + (d1 : Int) + (d2 : Int)) / 1000000000 = (q : Int) := by omega
      have fin : ∀ (g5 cap5 : Nat) (w5 : World), w5.ownsRow w.heap.size 3 1 (.slice (some ⟨g5, 0, none⟩) (i + 1) cap5) (i + 1) (intsN us ++ [.int .i64 (r : Int)]) → Pure w w5 →
          PlRel w xs ys M (M + 2 - (i + 1)) (.slice (some ⟨g5, 0, none⟩) (i + 1) cap5) (.int .i64 (q : Int)) (.int .i64 ((i : Int) + 1)) w5 := fun g5 cap5 w5 ho hm5 =>
        pl_next hiM hM1 hM2 HUL.out HUD.out HV.out hcy (by rw [h1]; exact hb1) (by rw [h2]; exact hb2) (by rw [h1, h2]; exact hr) (by rw [h1, h2]; exact hq) hrb hqb ho hm5
      have FIN := Lib.hid fin
      clear fin hr hq h1 h2
      by_cases hiM2 : i < M
      · by_cases h1 : i < xs.length
        · by_cases h2 : i < ys.length
          · obtain ⟨g1, o1, rfl, hc1⟩ := hq1 h1
            obtain ⟨g2, o2, rfl, hc2⟩ := hq2 h2
            clear hq1 hq2
            go_wp2_with (at_builtin; refine wpList_append_lies _ rfl _ _ _ rfl w.heap.size 3 i0 _ 1 8 Try.underlying123 hi0 hz0 hz1' hz2' rfl (by omega) (.slice A i cap) i (intsN us) rfl (hown.alloc _) ⟨wr.heap.size, 0, none⟩ 1 1 [.int .i64 (r : Int)] rfl rfl (World.news_of_block (cs := #[.int .i64 (r : Int)]) (t := 3) (fr := (0, 0)) (heap_alloc_new wr _)) (by simp [Value.oneCell']) (by omega) (by simp [maxLen]; omega) (by omega) (by have := hm.size; simp; omega) (wr.heap.size + 1) (by simp) ?_; intro g5 cap5 w5 hown5 hgrow hat hlt5)
            go_roundg (M + 2 - (i + 1))
            case measure => omega
            case rel =>
              have h := FIN.out g5 cap5 w5 hown5 ((hm.alloc _).grown hgrow (fun k hk => .inr (own_block hown k hk)))
              first
                | exact h
                | (rw [hquo]; exact h)
          · obtain ⟨g1, o1, rfl, hc1⟩ := hq1 h1
            obtain rfl : d2 = 0 := hz2 (by omega)
            have hrem' : ((c : Int) + (d1 : Int)) % 1000000000 = (r : Int) := by omega
            have hquo' : ((c : Int) + (d1 : Int)) / 1000000000 = (q : Int) := by omega
            clear hq1 hq2 hrem hquo
            go_wp2_with (at_builtin; refine wpList_append_lies _ rfl _ _ _ rfl w.heap.size 3 i0 _ 1 8 Try.underlying123 hi0 hz0 hz1' hz2' rfl (by omega) (.slice A i cap) i (intsN us) rfl (hown.alloc _) ⟨wr.heap.size, 0, none⟩ 1 1 [.int .i64 (r : Int)] rfl rfl (World.news_of_block (cs := #[.int .i64 (r : Int)]) (t := 3) (fr := (0, 0)) (heap_alloc_new wr _)) (by simp [Value.oneCell']) (by omega) (by simp [maxLen]; omega) (by omega) (by have := hm.size; simp; omega) (wr.heap.size + 1) (by simp) ?_; intro g5 cap5 w5 hown5 hgrow hat hlt5)
            go_roundg (M + 2 - (i + 1))
            case measure => omega
            case rel =>
              have h := FIN.out g5 cap5 w5 hown5 ((hm.alloc _).grown hgrow (fun k hk => .inr (own_block hown k hk)))
              first
                | exact h
                | (rw [hquo']; exact h)
        · by_cases h2 : i < ys.length
          · obtain ⟨g2, o2, rfl, hc2⟩ := hq2 h2
            obtain rfl : d1 = 0 := hz1 (by omega)
            have hrem' : ((c : Int) + (d2 : Int)) % 1000000000 = (r : Int) := by omega
            have hquo' : ((c : Int) + (d2 : Int)) / 1000000000 = (q : Int) := by omega
            clear hq1 hq2 hrem hquo
            go_wp2_with (at_builtin; refine wpList_append_lies _ rfl _ _ _ rfl w.heap.size 3 i0 _ 1 8 Try.underlying123 hi0 hz0 hz1' hz2' rfl (by omega) (.slice A i cap) i (intsN us) rfl (hown.alloc _) ⟨wr.heap.size, 0, none⟩ 1 1 [.int .i64 (r : Int)] rfl rfl (World.news_of_block (cs := #[.int .i64 (r : Int)]) (t := 3) (fr := (0, 0)) (heap_alloc_new wr _)) (by simp [Value.oneCell']) (by omega) (by simp [maxLen]; omega) (by omega) (by have := hm.size; simp; omega) (wr.heap.size + 1) (by simp) ?_; intro g5 cap5 w5 hown5 hgrow hat hlt5)
            go_roundg (M + 2 - (i + 1))
            case measure => omega
            case rel =>
              have h := FIN.out g5 cap5 w5 hown5 ((hm.alloc _).grown hgrow (fun k hk => .inr (own_block hown k hk)))
              first
                | exact h
                | (rw [hquo']; exact h)
          · exact absurd HM4.out (by omega)
      · have hpos : 0 < c := by omega
        obtain rfl : d1 = 0 := hz1 (by omega)
        obtain rfl : d2 = 0 := hz2 (by omega)
        obtain rfl : r = c := by omega
        obtain rfl : q = 0 := by omega
        have hrem' : (r : Int) % 1000000000 = (r : Int) := by omega
        have hquo' : (r : Int) / 1000000000 = ((0 : Nat) : Int) := by omega
        clear hq1 hq2 hrem hquo
        go_wp2_with (at_builtin; refine wpList_append_lies _ rfl _ _ _ rfl w.heap.size 3 i0 _ 1 8 Try.underlying123 hi0 hz0 hz1' hz2' rfl (by omega) (.slice A i cap) i (intsN us) rfl (hown.alloc _) ⟨wr.heap.size, 0, none⟩ 1 1 [.int .i64 (r : Int)] rfl rfl (World.news_of_block (cs := #[.int .i64 (r : Int)]) (t := 3) (fr := (0, 0)) (heap_alloc_new wr _)) (by simp [Value.oneCell']) (by omega) (by simp [maxLen]; omega) (by omega) (by have := hm.size; simp; omega) (wr.heap.size + 1) (by simp) ?_; intro g5 cap5 w5 hown5 hgrow hat hlt5)
        go_roundg (M + 2 - (i + 1))
        case measure => omega
        case rel =>
          have h := FIN.out g5 cap5 w5 hown5 ((hm.alloc _).grown hgrow (fun k hk => .inr (own_block hown k hk)))
          first
            | exact h
            | (rw [hquo']; exact h)
    · have hc0 : c = 0 := by omega
      have hiM : M ≤ i := by omega
      subst hc0
      go_wp2_with fail
      go_ret
      exact ⟨_, rfl, pl_done hiM hi hM1 hM2 hM3 HUL.out HUD.out HV.out (Sl.of_own hown), hm⟩

end Go.Proofs.Ytpacmdiodnnofaa
