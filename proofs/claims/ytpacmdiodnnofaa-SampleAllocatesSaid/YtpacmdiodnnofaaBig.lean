/- The reference's numbers: times, plus. -/
import Derived.Test.YtpacmdiodnnofaaBase
import Derived.Test.YtpacmdiodnnofaaMath
import Derived.Deep.AppendLies
import Derived.Deep.DeepCutAuto
namespace Go.Proofs.Ytpacmdiodnnofaa
set_option linter.unusedVariables false
set_option linter.unusedSimpArgs false
open Go.RowKit

def intsN (ds : List Nat) : List Value := ds.map (fun (d : Nat) => Value.int .i64 (d : Int))
theorem intsN_length (ds : List Nat) : (intsN ds).length = ds.length := by simp [intsN]
theorem intsN_get (ds : List Nat) (i : Nat) (h : i < ds.length) : (intsN ds)[i]? = some (.int .i64 ((ds.getD i 0 : Nat) : Int)) := by
  simp [intsN, List.getD, h]
theorem intsN_snoc (ds : List Nat) (d : Nat) : intsN ds ++ [.int .i64 (d : Int)] = intsN (ds ++ [d]) := by simp [intsN]
/-- A number of the reference: its digits, all below 10^9, at most L of them. -/
def IsBig (w : World) (v : Value) (x L : Nat) : Prop :=
  ∃ ds : List Nat, Sl w 3 1 v (intsN ds) ∧ (∀ d ∈ ds, d < 1000000000) ∧ val B9 ds = x ∧ ds.length ≤ L
theorem IsBig.pure {w w' : World} {v : Value} {x L : Nat} (h : IsBig w v x L) (hm : Pure w w') : IsBig w' v x L := by
  obtain ⟨ds, h1, h2⟩ := h
  exact ⟨ds, h1.pure hm, h2⟩
theorem IsBig.more {w : World} {v : Value} {x L M : Nat} (h : IsBig w v x L) (hL : L ≤ M) : IsBig w v x M := by
  obtain ⟨ds, h1, h2, h3, h4⟩ := h
  exact ⟨ds, h1, h2, h3, by omega⟩
theorem IsBig.form {w : World} {v : Value} {x L : Nat} (h : IsBig w v x L) : ∃ A n c, v = .slice A n c := by
  obtain ⟨ds, h1, _⟩ := h
  exact h1.form
def BigPost (w : World) (x L : Nat) (e : Ending) (w' : World) : Prop := ∃ v, e = .returned v ∧ IsBig w' v x L ∧ Pure w w'
theorem IsBig.zero (w : World) (L : Nat) : IsBig w (.slice none 0 0) 0 L := ⟨[], Sl.nil_, by simp, rfl, by simp⟩

theorem info_int : (Try.prog.info? 3).map (fun i => (i.zero, i.size, i.bytes)) = some (some (.int .i64 0), 1, 8) := by kernel_rfl
theorem mem_snoc_lt {B : Nat} {us : List Nat} {d : Nat} (h : ∀ x ∈ us, x < B) (hd : d < B) : ∀ x ∈ us ++ [d], x < B := by
  intro x hx
  rcases List.mem_append.1 hx with h1 | h1
  · exact h x h1
  · simp at h1; omega

def TimRel (w : World) (ds : List Nat) (n gk : Nat) (o cy i : Value) (wr : World) : Prop :=
  ∃ (k c : Nat) (us : List Nat) (A : Option Addr) (cap : Nat), ds.length - k = gk ∧ k ≤ ds.length ∧ cy = .int .i64 (c : Int) ∧ c ≤ n ∧ i = .int .i64 (k : Int) ∧ us.length = k ∧ (∀ d ∈ us, d < 1000000000) ∧
    val B9 us + B9 ^ k * c = val B9 (ds.take k) * n ∧ o = .slice A k cap ∧ wr.ownsRow w.heap.size 3 1 (.slice A k cap) k (intsN us) ∧ Pure w wr
def TimRel2 (w : World) (ds : List Nat) (n gk : Nat) (o cy : Value) (wr : World) : Prop :=
  ∃ (k c : Nat) (us : List Nat) (A : Option Addr) (cap : Nat), c = gk ∧ k ≤ ds.length + 1 ∧ (c = 0 ∨ k = ds.length) ∧ cy = .int .i64 (c : Int) ∧ c ≤ n ∧ us.length = k ∧ (∀ d ∈ us, d < 1000000000) ∧
    val B9 us + B9 ^ k * c = val B9 ds * n ∧ o = .slice A k cap ∧ wr.ownsRow w.heap.size 3 1 (.slice A k cap) k (intsN us) ∧ Pure w wr

theorem tim_next {w wr : World} {ds us : List Nat} {n k c d p r q : Nat} {A : Option Addr} {cap : Nat} (hlt : k < ds.length) (hul : us.length = k) (hud : ∀ d ∈ us, d < 1000000000)
    (hval : val B9 us + B9 ^ k * c = val B9 (ds.take k) * n) (hd : ds.getD k 0 = d) (hp : d * n = p) (hr : (c + p) % B9 = r) (hq : (c + p) / B9 = q) (hrb : r < 1000000000) (hqn : q ≤ n)
    (hown : wr.ownsRow w.heap.size 3 1 (.slice A (k + 1) cap) (k + 1) (intsN us ++ [.int .i64 (r : Int)])) (hm : Pure w wr) :
    TimRel w ds n (ds.length - (k + 1)) (.slice A (k + 1) cap) (.int .i64 (q : Int)) (.int .i64 ((k : Int) + 1)) wr := by
  refine ⟨k + 1, q, us ++ [r], A, cap, rfl, hlt, rfl, hqn, by simp, by simp [hul], mem_snoc_lt hud hrb, ?_, rfl, by rw [← intsN_snoc]; exact hown, hm⟩
  have hst := tim_step B9 k n d c _ _ hval
  rw [hp, hr, hq, ← hd, ← val_take_succ] at hst
  rw [val_snoc, hul]
  exact hst

theorem tim_last {w wr : World} {ds us : List Nat} {n k c : Nat} {A : Option Addr} {cap : Nat} {q : Int} (hk : k = ds.length) (hul : us.length = k) (hud : ∀ d ∈ us, d < 1000000000)
    (hval : val B9 us + B9 ^ k * c = val B9 ds * n) (hc : c < 1000000000) (hq : q = 0)
    (hown : wr.ownsRow w.heap.size 3 1 (.slice A (k + 1) cap) (k + 1) (intsN us ++ [.int .i64 (c : Int)])) (hm : Pure w wr) :
    TimRel2 w ds n 0 (.slice A (k + 1) cap) (.int .i64 q) wr := by
  subst hq
  refine ⟨k + 1, 0, us ++ [c], A, cap, rfl, by omega, .inl rfl, rfl, by omega, by simp [hul], mem_snoc_lt hud hc, ?_, rfl, by rw [← intsN_snoc]; exact hown, hm⟩
  rw [val_snoc, hul, Nat.mul_zero, Nat.add_zero]
  exact hval
theorem tim_done {w : World} {ds us : List Nat} {n k L : Nat} {v : Value} (hul : us.length = k) (hud : ∀ d ∈ us, d < 1000000000) (hk : k ≤ ds.length + 1) (hx : ds.length ≤ L)
    (hval : val B9 us + B9 ^ k * 0 = val B9 ds * n) (hs : Sl w 3 1 v (intsN us)) : IsBig w v (val B9 ds * n) (L + 1) := by
  rw [Nat.mul_zero, Nat.add_zero] at hval
  exact ⟨us, hs, hud, hval, by omega⟩

set_option maxRecDepth 100000 in
set_option maxHeartbeats 1000000 in
theorem btimes_calls (w : World) (a : Value) (x L n : Nat) (hx : IsBig w a x L) (hL : L ≤ 1000000) (hn : n ≤ 1000000) :
    Calls Try.prog 117 #[a, .int .i64 (n : Int)] w (BigPost w (x * n) (L + 1)) := by
  obtain ⟨i0, hi0, hz0, hz1, hz2⟩ := info_parts info_int
  obtain ⟨ds, ⟨A1, n1, c1, rfl, hc1, hc1', hl1, hr1⟩, hd1, rfl, hxl⟩ := hx
  rw [intsN_length, Nat.mul_one] at hl1
  subst hl1
  have HD1 := Lib.hid hd1
  have HR1 := Lib.hid hr1
  clear hd1 hr1
  go_enter Try.func117, Try.ntmps117
  go_wp2_with fail
  go_loopg [5, 6, 11] ds.length (fun gk o cy i wr => TimRel w ds n gk o cy i wr)
  case atStart => exact ⟨0, 0, [], none, 0, by omega, by omega, rfl, by omega, rfl, rfl, by simp, by simp [val_nil], rfl, ⟨by simp [intsN], .inl ⟨rfl, rfl⟩⟩, Mod.refl _ _⟩
  case round =>
    obtain ⟨k, c, us, A, cap, rfl, hk, rfl, hc, rfl, hul, hud, hval, rfl, hown, hm⟩ := hrel
    have HUL := Lib.hid hul
    have HUD := Lib.hid hud
    have HV := Lib.hid hval
    clear hul hud hval
    by_cases hlt : k < ds.length
    · obtain ⟨g1, o1, rfl, hrr1⟩ := HR1.out (by omega)
      have hq1 := (hrr1.mod hm id).cell (intsN_get ds k hlt)
      have hb1 := getD_lt (B := 1000000000) (by omega) HD1.out k
      obtain ⟨d, hd⟩ : ∃ d, ds.getD k 0 = d := ⟨_, rfl⟩
      rw [hd] at hq1 hb1
      have HD := Lib.hid hd
      clear hd hrr1
      have htc := tim_carry 1000000000 n d c (by omega) hb1 hc
      obtain ⟨p, hp⟩ : ∃ p : Nat, d * n = p := ⟨_, rfl⟩
      have hpi : (d : Int) * (n : Int) = (p : Int) := by rw [← hp]; simp
      rw [hp] at htc
      have HP := Lib.hid hp
      clear hp
      obtain ⟨htc1, htc2⟩ := htc
      have hrem : ((c : Int) + (p : Int)) % 1000000000 = (((c + p) % 1000000000 : Nat) : Int) := by omega
      have hquo : ((c : Int) + (p : Int)) / 1000000000 = (((c + p) / 1000000000 : Nat) : Int) := by omega
      have hrb : (c + p) % 1000000000 < 1000000000 := by omega
      obtain ⟨r, hr⟩ : ∃ r, (c + p) % 1000000000 = r := ⟨_, rfl⟩
      obtain ⟨q, hq⟩ : ∃ q, (c + p) / 1000000000 = q := ⟨_, rfl⟩
      rw [hr] at hrem hrb
      rw [hq] at hquo htc1
      have HR := Lib.hid hr
      have HQ := Lib.hid hq
      clear hr hq
      go_wp2_with (at_builtin; refine wpList_append_lies _ rfl _ _ _ rfl w.heap.size 3 i0 _ 1 8 Try.underlying123 hi0 hz0 hz1 hz2 rfl (by omega) (.slice A k cap) k (intsN us) rfl (hown.alloc _) ⟨wr.heap.size, 0, none⟩ 1 1 [.int .i64 (r : Int)] rfl rfl (World.news_of_block (cs := #[.int .i64 (r : Int)]) (t := 3) (fr := (0, 0)) (heap_alloc_new wr _)) (by simp [Value.oneCell']) (by omega) (by simp [maxLen]; omega) (by omega) (by have := hm.size; simp; omega) (wr.heap.size + 1) (by simp) ?_; intro g5 cap5 w5 hown5 hgrow hat hlt5)
      go_roundg (ds.length - (k + 1))
      case measure => omega
      case rel =>
        rw [hquo]
        exact tim_next hlt HUL.out HUD.out HV.out HD.out HP.out HR.out HQ.out hrb htc1 hown5 ((hm.alloc _).grown hgrow (fun k hk => .inr (own_block hown k hk)))
    · have hke : k = ds.length := by omega
      subst hke
      go_wp2_with fail
      go_loopg [5, 6] c (fun gk o cy wr => TimRel2 w ds n gk o cy wr)
      case atStart =>
        refine ⟨ds.length, c, us, A, cap, rfl, by omega, .inr rfl, rfl, hc, HUL.out, HUD.out, ?_, rfl, hown, hm⟩
        have := HV.out
        rwa [List.take_of_length_le (Nat.le_refl _)] at this
      case round =>
        clear hown hm HV HUL HUD
        obtain ⟨k, c, us, A, cap, rfl, hk, hck, rfl, hc, hul, hud, hval, rfl, hown, hm⟩ := hrel
        have HUL := Lib.hid hul
        have HUD := Lib.hid hud
        have HV := Lib.hid hval
        have HCK := Lib.hid hck
        clear hul hud hval hck
        by_cases h0 : c = 0
        · subst h0
          go_wp2_with fail
          go_ret
          exact ⟨_, rfl, tim_done HUL.out HUD.out hk hxl HV.out (Sl.of_own hown), hm⟩
        · have hpos : 0 < c := by omega
          have hrem : (c : Int) % 1000000000 = (c : Int) := by omega
          have hquo : (c : Int) / 1000000000 = 0 := by omega
          go_wp2_with (at_builtin; refine wpList_append_lies _ rfl _ _ _ rfl w.heap.size 3 i0 _ 1 8 Try.underlying123 hi0 hz0 hz1 hz2 rfl (by omega) (.slice A k cap) k (intsN us) rfl (hown.alloc _) ⟨wr.heap.size, 0, none⟩ 1 1 [.int .i64 (c : Int)] rfl rfl (World.news_of_block (cs := #[.int .i64 (c : Int)]) (t := 3) (fr := (0, 0)) (heap_alloc_new wr _)) (by simp [Value.oneCell']) (by omega) (by simp [maxLen]; omega) (by omega) (by have := hm.size; simp; omega) (wr.heap.size + 1) (by simp) ?_; intro g5 cap5 w5 hown5 hgrow hat hlt5)
          go_roundg 0
          case measure => omega
          case rel =>
            exact tim_last (HCK.out.resolve_left h0) HUL.out HUD.out HV.out (by omega) rfl hown5 ((hm.alloc _).grown hgrow (fun k hk => .inr (own_block hown k hk)))

end Go.Proofs.Ytpacmdiodnnofaa
