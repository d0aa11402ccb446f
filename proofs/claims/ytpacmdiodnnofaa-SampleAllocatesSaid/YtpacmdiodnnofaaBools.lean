/- Lists of truths: how many are true; the generators Relevant and Share; flag, AllOf, all, gains. -/
import Derived.Test.YtpacmdiodnnofaaRegG
import Derived.Test.YtpacmdiodnnofaaCheck
import Derived.Test.YtpacmdiodnnofaaIdx
import Derived.Deep.AppendLies
namespace Go.Proofs.Ytpacmdiodnnofaa
set_option linter.unusedVariables false
set_option linter.unusedSimpArgs false
open Go.RowKit

def cnt (bs : List Bool) : Nat := bs.count true
def boolsV (bs : List Bool) : List Value := bs.map Value.bool
theorem boolsV_get (bs : List Bool) (i : Nat) (h : i < bs.length) : (boolsV bs)[i]? = some (.bool bs[i]) := by simp [boolsV, h]
theorem boolsV_len (bs : List Bool) : (boolsV bs).length = bs.length := by simp [boolsV]
theorem cnt_le (bs : List Bool) : cnt bs ≤ bs.length := List.count_le_length
theorem cnt_nil : cnt [] = 0 := rfl
theorem cnt_snoc (bs : List Bool) (x : Bool) : cnt (bs ++ [x]) = cnt bs + if x then 1 else 0 := by
  unfold cnt
  rw [List.count_append]
  cases x <;> rfl
theorem cnt_take (bs : List Bool) (k : Nat) (h : k < bs.length) : cnt (bs.take (k + 1)) = cnt (bs.take k) + if bs[k] then 1 else 0 := by
  rw [List.take_succ_eq_append_getElem h, cnt_snoc]
theorem cnt_take_le (bs : List Bool) (k : Nat) : cnt (bs.take k) ≤ k := Nat.le_trans (cnt_le _) (List.length_take_le _ _)
def gainsL (bs : List Bool) (k : Nat) : List Int := (List.range k).map fun i => (cnt (bs.take (i + 1)) : Int)
theorem gainsL_len (bs : List Bool) (k : Nat) : (gainsL bs k).length = k := by simp [gainsL]
theorem gainsL_succ (bs : List Bool) (k : Nat) : gainsL bs (k + 1) = gainsL bs k ++ [(cnt (bs.take (k + 1)) : Int)] := by simp [gainsL, List.range_succ]
theorem gainsL_get (bs : List Bool) {n i : Nat} (h : i < n) : (gainsL bs n)[i]'(by rw [gainsL_len]; exact h) = (cnt (bs.take (i + 1)) : Int) := by simp [gainsL]

theorem info_int_ : (Try.prog.info? 3).map (fun i => (i.zero, i.size, i.bytes)) = some (some (.int .i64 0), 1, 8) := by kernel_rfl
theorem info_bool_ : (Try.prog.info? 4).map (fun i => (i.zero, i.size, i.bytes)) = some (some (.bool false), 1, 1) := by kernel_rfl

set_option maxRecDepth 100000 in
set_option maxHeartbeats 400000 in
theorem flag_calls (x : Bool) (w : World) : Calls Try.prog 94 #[.bool x] w fun e w' => e = .returned (.int .i64 (if x then 1 else 0)) ∧ w = w' := by
  cases x
  all_goals
    go_enter Try.func94, Try.ntmps94
    go_wp2_with fail
    go_ret
    exact ⟨rfl, rfl⟩

set_option maxRecDepth 100000 in
set_option maxHeartbeats 1000000 in
theorem allOf_calls (w : World) (v : Value) (bs : List Bool) (hv : Sl w 4 1 v (boolsV bs)) : Calls Try.prog 58 #[v] w (IntPost w (cnt bs : Int)) := by
  obtain ⟨A, n, c, rfl, hc1, hc2, hl, hr⟩ := hv
  have hln : bs.length = n := by simpa [boolsV] using hl
  subst hln
  have HR := Lib.hid hr
  clear hl hr
  go_enter Try.func58, Try.ntmps58
  go_wp2_with fail
  go_loopg [3, 8] bs.length (fun gk t i wr => ∃ k : Nat, bs.length - k = gk ∧ k ≤ bs.length ∧ i = .int .i64 (k : Int) ∧ t = .int .i64 (cnt (bs.take k) : Int) ∧ Pure w wr)
  case atStart => exact ⟨0, by omega, by omega, rfl, rfl, Mod.refl _ _⟩
  case round =>
    obtain ⟨k, rfl, hk, rfl, rfl, hm⟩ := hrel
    have hle := cnt_take_le bs k
    by_cases hlt : k < bs.length
    · obtain ⟨g, off, rfl, hrow⟩ := HR.out (by omega)
      have hq := (hrow.mod hm id).cell (boolsV_get bs k hlt)
      have HT := Lib.hid (cnt_take bs k hlt)
      clear hrow
      generalize bs[k] = x at *
      generalize cnt (bs.take k) = t0 at *
      go_wp2_with fail
      refine (flag_calls _ _).mono ?_
      rintro e w' ⟨rfl, rfl⟩
      cases x
      all_goals
        go_wp2_with fail
        go_roundg (bs.length - (k + 1))
        case measure => omega
        case rel => exact ⟨k + 1, rfl, hlt, by simp, by rw [HT.out]; simp, hm⟩
    · have hke : k = bs.length := by omega
      subst hke
      go_wp2_with fail
      go_ret
      exact IntPost.of (by rw [List.take_length]) hm

set_option maxRecDepth 100000 in
set_option maxHeartbeats 1000000 in
theorem all_calls (w : World) (v : Value) (bs : List Bool) (hv : Sl w 4 1 v (boolsV bs)) : Calls Try.prog 90 #[v] w (IntPost w (cnt bs : Int)) := by
  obtain ⟨A, n, c, rfl, hc1, hc2, hl, hr⟩ := hv
  have hln : bs.length = n := by simpa [boolsV] using hl
  subst hln
  have HR := Lib.hid hr
  clear hl hr
  go_enter Try.func90, Try.ntmps90
  go_wp2_with fail
  go_loopg [3, 8] bs.length (fun gk t i wr => ∃ k : Nat, bs.length - k = gk ∧ k ≤ bs.length ∧ i = .int .i64 (k : Int) ∧ t = .int .i64 (cnt (bs.take k) : Int) ∧ Pure w wr)
  case atStart => exact ⟨0, by omega, by omega, rfl, rfl, Mod.refl _ _⟩
  case round =>
    obtain ⟨k, rfl, hk, rfl, rfl, hm⟩ := hrel
    have hle := cnt_take_le bs k
    by_cases hlt : k < bs.length
    · obtain ⟨g, off, rfl, hrow⟩ := HR.out (by omega)
      have hq := (hrow.mod hm id).cell (boolsV_get bs k hlt)
      have HT := Lib.hid (cnt_take bs k hlt)
      clear hrow
      generalize bs[k] = x at *
      generalize cnt (bs.take k) = t0 at *
      cases x
      all_goals
        go_wp2_with fail
        go_roundg (bs.length - (k + 1))
        case measure => omega
        case rel => exact ⟨k + 1, rfl, hlt, by simp, by rw [HT.out]; simp, hm⟩
    · have hke : k = bs.length := by omega
      subst hke
      go_wp2_with fail
      go_ret
      exact IntPost.of (by rw [List.take_length]) hm

/-- A new slice that holds xs. -/
def OwnPost (w : World) (t : TypeId) (xs : List Value) (e : Ending) (w' : World) : Prop := ∃ v n, e = .returned v ∧ w'.ownsRow w.heap.size t 1 v n xs ∧ Pure w w'
def GainsRel (w : World) (bs : List Bool) (gk : Nat) (t o i : Value) (wr : World) : Prop :=
  ∃ (k : Nat) (A : Option Addr) (cap : Nat), bs.length - k = gk ∧ k ≤ bs.length ∧ i = .int .i64 (k : Int) ∧ t = .int .i64 (cnt (bs.take k) : Int) ∧ o = .slice A k cap ∧ wr.ownsRow w.heap.size 3 1 (.slice A k cap) k (intsV (gainsL bs k)) ∧ Pure w wr

set_option maxRecDepth 100000 in
set_option maxHeartbeats 2000000 in
theorem gains_calls (w : World) (v : Value) (bs : List Bool) (hv : Sl w 4 1 v (boolsV bs)) (hlen : bs.length ≤ 1000000) : Calls Try.prog 92 #[v] w (OwnPost w 3 (intsV (gainsL bs bs.length))) := by
  obtain ⟨i0, hi0, hz0, hz1, hz2⟩ := info_parts info_int_
  obtain ⟨A, n, c, rfl, hc1, hc2, hl, hr⟩ := hv
  have hln : bs.length = n := by simpa [boolsV] using hl
  subst hln
  have HR := Lib.hid hr
  clear hl hr
  go_enter Try.func92, Try.ntmps92
  go_wp2_with fail
  go_loopg [3, 4, 9] bs.length (fun gk t o i wr => GainsRel w bs gk t o i wr)
  case atStart => exact ⟨0, none, 0, by omega, by omega, rfl, rfl, rfl, ⟨by simp [intsV, gainsL], .inl ⟨rfl, rfl⟩⟩, Mod.refl _ _⟩
  case round =>
    obtain ⟨k, A, cap, rfl, hk, rfl, rfl, rfl, hown, hm⟩ := hrel
    have hle := cnt_take_le bs k
    by_cases hlt : k < bs.length
    · obtain ⟨g, off, rfl, hrow⟩ := HR.out (by omega)
      have hq := (hrow.mod hm id).cell (boolsV_get bs k hlt)
      have HT := Lib.hid (cnt_take bs k hlt)
      have HG := Lib.hid (gainsL_succ bs k)
      clear hrow
      generalize bs[k] = x at *
      generalize cnt (bs.take k) = t0 at *
      cases x
      · go_wp2_with (at_builtin; refine wpList_append_lies _ rfl _ _ _ rfl w.heap.size 3 i0 _ 1 8 Try.underlying22 hi0 hz0 hz1 hz2 rfl (by omega) (.slice A k cap) k (intsV (gainsL bs k)) rfl (hown.alloc _) ⟨wr.heap.size, 0, none⟩ 1 1 [.int .i64 (t0 : Int)] rfl rfl (World.news_of_block (cs := #[.int .i64 (t0 : Int)]) (t := 3) (fr := (0, 0)) (heap_alloc_new wr _)) (by simp [Value.oneCell']) (by omega) (by simp [maxLen]; omega) (by omega) (by have := hm.size; simp; omega) (wr.heap.size + 1) (by simp) ?_; intro g5 cap5 w5 hown5 hgrow hat hlt5)
        go_roundg (bs.length - (k + 1))
        case measure => omega
        case rel =>
          refine ⟨k + 1, _, _, rfl, hlt, by simp, by rw [HT.out]; simp, rfl, ?_, (hm.alloc _).grown hgrow (fun k hk => .inr (own_block hown k hk))⟩
          rw [HG.out, HT.out]
          simpa [intsV] using hown5
      · go_wp2_with (at_builtin; refine wpList_append_lies _ rfl _ _ _ rfl w.heap.size 3 i0 _ 1 8 Try.underlying22 hi0 hz0 hz1 hz2 rfl (by omega) (.slice A k cap) k (intsV (gainsL bs k)) rfl (hown.alloc _) ⟨wr.heap.size, 0, none⟩ 1 1 [.int .i64 ((t0 : Int) + 1)] rfl rfl (World.news_of_block (cs := #[.int .i64 ((t0 : Int) + 1)]) (t := 3) (fr := (0, 0)) (heap_alloc_new wr _)) (by simp [Value.oneCell']) (by omega) (by simp [maxLen]; omega) (by omega) (by have := hm.size; simp; omega) (wr.heap.size + 1) (by simp) ?_; intro g5 cap5 w5 hown5 hgrow hat hlt5)
        go_roundg (bs.length - (k + 1))
        case measure => omega
        case rel =>
          refine ⟨k + 1, _, _, rfl, hlt, by simp, by rw [HT.out]; simp, rfl, ?_, (hm.alloc _).grown hgrow (fun k hk => .inr (own_block hown k hk))⟩
          rw [HG.out, HT.out]
          simpa [intsV] using hown5
    · have hke : k = bs.length := by omega
      subst hke
      go_wp2_with fail
      go_ret
      exact ⟨_, _, rfl, hown, hm⟩

def readErr (n : Int) : Int := if n ≤ 2000 then 0 else 2
set_option maxRecDepth 100000 in
set_option maxHeartbeats 400000 in
theorem readError_calls (w : World) (A : Option Addr) (n c : Nat) (hn : n ≤ 9223372036854775807) : Calls Try.prog 88 #[.slice A n c] w (IntPost w (readErr n)) := by
  by_cases h : n ≤ 2000
  · have hd : decide ((2000 : Int) < (n : Int)) = false := by simp; omega
    have HR : Hid (readErr n = 0) := if_pos (by omega)
    go_enter Try.func88, Try.ntmps88
    go_wp2_with fail
    refine (when_f _ _).mono ?_
    rintro e w' ⟨rfl, rfl⟩
    go_wp2_with fail
    go_ret
    exact IntPost.of (by rw [HR.out]) (Mod.refl _ _)
  · have hd : decide ((2000 : Int) < (n : Int)) = true := by simp; omega
    have HR : Hid (readErr n = 2) := if_neg (by omega)
    go_enter Try.func88, Try.ntmps88
    go_wp2_with fail
    refine (when_t _ _).mono ?_
    rintro e w' ⟨rfl, rfl⟩
    go_wp2_with fail
    go_ret
    exact IntPost.of (by rw [HR.out]) (Mod.refl _ _)

def shareErr (n d : Int) : Int := if (1 ≤ d ∧ d ≤ 1000000) ∧ 0 ≤ n ∧ n ≤ d then 0 else 1
set_option maxRecDepth 100000 in
set_option maxHeartbeats 400000 in
theorem shareError_calls (w : World) (n d : Int) : Calls Try.prog 89 #[.agg #[.int .i64 n, .int .i64 d]] w (IntPost w (shareErr n d)) := by
  go_enter Try.func89, Try.ntmps89
  go_wp2_with fail
  refine (in_calls _ _ _ _).mono ?_
  rintro e w' ⟨rfl, rfl⟩
  cases h1 : inB d 1 1000000
  · go_wp2_with fail
    refine (when_t _ _).mono ?_
    rintro e w' ⟨rfl, rfl⟩
    go_wp2_with fail
    go_ret
    refine IntPost.of ?_ ((Mod.refl _ _).alloc _)
    unfold shareErr
    have := inB_false h1
    rw [if_neg (by omega)]
  · have h1' := inB_true h1
    obtain ⟨h2, h3⟩ := h1'
    clear h1
    go_wp2_with fail
    refine (in_calls _ _ _ _).mono ?_
    rintro e w' ⟨rfl, rfl⟩
    cases h4 : inB n 0 d
    · go_wp2_with fail
      refine (when_t _ _).mono ?_
      rintro e w' ⟨rfl, rfl⟩
      go_wp2_with fail
      go_ret
      refine IntPost.of ?_ ((Mod.refl _ _).alloc _)
      unfold shareErr
      have := inB_false h4
      rw [if_neg (by omega)]
    · go_wp2_with fail
      refine (when_f _ _).mono ?_
      rintro e w' ⟨rfl, rfl⟩
      go_wp2_with fail
      go_ret
      refine IntPost.of ?_ ((Mod.refl _ _).alloc _)
      unfold shareErr
      have := inB_true h4
      rw [if_pos (by omega)]

end Go.Proofs.Ytpacmdiodnnofaa
