/- Lists of truths: the generators Relevant and Share, Depth and its reference. -/
import Derived.Test.YtpacmdiodnnofaaBools
import Derived.Test.YtpacmdiodnnofaaRCheck
import Derived.Test.YtpacmdiodnnofaaMostB
namespace Go.Proofs.Ytpacmdiodnnofaa
set_option linter.unusedVariables false
set_option linter.unusedSimpArgs false
open Go.RowKit
attribute [local go_sem ↓] Go.wp_at_zero Go.wp_at_succ

set_option maxRecDepth 100000 in
set_option maxHeartbeats 1000000 in
theorem indexFunc2_calls (w : World) (v : Value) (xs : List Int) (F : Nat) (c1 c2 : Value) (P : Int → Bool) (hv : Sl w 3 1 v (intsV xs))
    (hcf : ∀ (n : Int) (W : World), Sem.run Try.prog (callFunc F #[.int .i64 n, c1, c2]) W = .ok (.enter F #[.int .i64 n, c1, c2]) W)
    (hF : ∀ (n : Int) (W : World), n ∈ xs → Pure w W → Calls Try.prog F #[.int .i64 n, c1, c2] W (BoolPost W (P n))) :
    Calls Try.prog 91 #[v, .func (.func F) #[] #[c1, c2]] w (IntPost w (idxP P xs 0)) := by
  have HF := Lib.hid hF
  obtain ⟨A, n, c, rfl, hc1, hc2, hl, hr⟩ := hv
  have hln : xs.length = n := by simpa [intsV] using hl
  subst hln
  have HR := Lib.hid hr
  clear hF hl hr
  go_enter Try.func91, Try.ntmps91
  go_wp2_with fail
  go_loopg [8] xs.length (fun gk i wr => ∃ k : Nat, xs.length - k = gk ∧ k ≤ xs.length ∧ i = .int .i64 (k : Int) ∧ idxP P xs 0 = idxP P (xs.drop k) (k : Int) ∧ Pure w wr)
  case atStart => exact ⟨0, by omega, by omega, rfl, rfl, Mod.refl _ _⟩
  case round =>
    obtain ⟨k, rfl, hk, rfl, hix, hm⟩ := hrel
    have HIX := Lib.hid hix
    clear hix
    by_cases hlt : k < xs.length
    · obtain ⟨g, off, rfl, hrow⟩ := HR.out (by omega)
      have hq := (hrow.mod hm id).cell (intsV_get xs k hlt)
      have hd : xs.drop k = xs[k] :: xs.drop (k + 1) := List.drop_eq_getElem_cons hlt
      have hcall := HF.out xs[k] wr (List.getElem_mem hlt) hm
      have hi2 : idxP P xs 0 = if P xs[k] then (k : Int) else idxP P (xs.drop (k + 1)) ((k : Int) + 1) := by rw [HIX.out, hd]; rfl
      have HI2 := Lib.hid hi2
      have HC := Lib.hid hcall
      clear hd hi2 hcall hrow HIX
      generalize xs[k] = x at *
      go_wp2_with fail
      refine HC.out.mono ?_
      rintro e w1 ⟨rfl, hm1⟩
      cases hp : P x
      · go_wp2_with fail
        go_roundg (xs.length - (k + 1))
        case measure => omega
        case rel => exact ⟨k + 1, rfl, hlt, by simp, by rw [HI2.out, hp]; simp, hm.trans hm1⟩
      · go_wp2_with fail
        go_ret
        exact IntPost.of (by rw [HI2.out, hp]; rfl) (hm.trans hm1)
    · have hke : k = xs.length := by omega
      subst hke
      go_wp2_with fail
      go_ret
      exact IntPost.of (by rw [HIX.out, List.drop_of_length_le (Nat.le_refl _)]; rfl) hm


theorem Sl.take {w : World} {e : TypeId} {A : Option Addr} {n c : Nat} {xs : List Value} (h : Sl w e 1 (.slice A n c) xs) {k : Nat} (hk : k ≤ n) : Sl w e 1 (.slice A k c) (xs.take k) := by
  obtain ⟨A', n', c', hv, h1, h2, h3, h4⟩ := h
  injection hv with ha hn hc
  subst ha hn hc
  refine ⟨A, k, c, rfl, by omega, h2, by rw [List.length_take, h3]; omega, fun h0 => ?_⟩
  obtain ⟨g, off, rfl, arr, fr, ha, hb⟩ := h4 (by omega)
  refine ⟨g, off, rfl, arr, fr, ha, fun i u hu => hb i u ?_⟩
  rw [List.getElem?_take] at hu
  split at hu
  · exact hu
  · cases hu
theorem boolsV_take (bs : List Bool) (k : Nat) : (boolsV bs).take k = boolsV (bs.take k) := by simp [boolsV]

def RelPost (w : World) (b N : Nat) (e : Ending) (w' : World) : Prop :=
  ∃ v bs, bs.length ≤ 20 ∧ e = .returned v ∧ w'.ownsRow w.heap.size 4 1 v bs.length (boolsV bs) ∧ Strm w' b (N + 50) ∧ Mod (· = b) w w'
def RelRel (w : World) (b N n gk : Nat) (o i : Value) (wr : World) : Prop :=
  ∃ (bs : List Bool) (A : Option Addr) (cap : Nat), n - bs.length = gk ∧ bs.length ≤ n ∧ i = .int .i64 (bs.length : Int) ∧ o = .slice A bs.length cap ∧ wr.ownsRow w.heap.size 4 1 (.slice A bs.length cap) bs.length (boolsV bs) ∧ Strm wr b (N + 1 + 2 * bs.length) ∧ Mod (· = b) w wr

set_option maxRecDepth 100000 in
set_option maxHeartbeats 2000000 in
theorem relevant_calls (w : World) (b N : Nat) (hS : Strm w b N) (hN : N ≤ 800000000) : Calls Try.prog 47 #[.pointer (some ⟨b, 0, none⟩)] w (RelPost w b N) := by
  obtain ⟨i0, hi0, hz0, hz1, hz2⟩ := info_parts info_bool_
  have hlt0 := hS.lt
  go_enter Try.func47, Try.ntmps47
  go_wp2_with fail
  refine (pick_calls _ b N _ _ [0, 1, 3, 8, 20] (hS.alloc _) (by omega) (Blk.new _ _ _) (by omega) (by simp) (by simp)).mono ?_
  rintro e w1 ⟨n', hn, rfl, hS1, hM1⟩
  obtain ⟨n, rfl⟩ := Int.eq_ofNat_of_zero_le (show 0 ≤ n' by simp at hn; omega)
  have hn20 : n ≤ 20 := by simp at hn; omega
  have hM1' : Mod (· = b) w w1 := ((Mod.refl _ _).alloc _).trans hM1
  clear hn hM1
  go_wp2_with fail
  go_loopg [3, 7] n (fun gk o i wr => RelRel w b N n gk o i wr)
  case atStart => exact ⟨[], none, 0, by simp, by simp, rfl, rfl, ⟨by simp [boolsV], .inl ⟨rfl, rfl⟩⟩, hS1, hM1'⟩
  case round =>
    clear hS1 hM1'
    obtain ⟨bs, A, cap, rfl, hk, rfl, rfl, hown, hS1, hm⟩ := hrel
    generalize hkk : bs.length = k at *
    have HKK := Lib.hid hkk
    clear hkk
    by_cases hlt : k < n
    · have hltb := hS1.lt
      have hz := hm.size
      go_wp2_with fail
      refine (pick_calls _ b _ _ _ [1, 2, 3, 9] (hS1.alloc _) (by omega) (Blk.new _ _ _) (by omega) (by simp) (by simp)).mono ?_
      rintro e w2 ⟨m, hmm, rfl, hS2, hM2⟩
      have hm1 : 1 ≤ m ∧ m ≤ 9 := by simp at hmm; omega
      clear hmm
      go_wp2_with fail
      refine (flip_calls _ b _ _ hS2 (by omega) (by omega) (by omega)).mono ?_
      rintro e w3 ⟨x, rfl, hS3, hM3⟩
      have hown3 := own_mod (own_mod (hown.alloc _) hM2 (fun g hg => by have := own_block hown g hg; omega)) hM3 (fun g hg => by have := own_block hown g hg; omega)
      have hm3 : Mod (· = b) w w3 := (((hm.alloc _).trans hM2).trans hM3)
      clear hown hm hM2 hM3 hS2 hS1
      go_wp2_with (at_builtin; refine wpList_append_lies _ rfl _ _ _ rfl w.heap.size 4 i0 _ 1 1 Try.underlying69 hi0 hz0 hz1 hz2 rfl (by omega) (.slice A k cap) k (boolsV bs) rfl (hown3.alloc _) ⟨w3.heap.size, 0, none⟩ 1 1 [.bool x] rfl rfl (World.news_of_block (cs := #[.bool x]) (t := 4) (fr := (0, 0)) (heap_alloc_new w3 _)) (by simp [Value.oneCell']) (by omega) (by simp [maxLen]; omega) (by omega) (by have := hm3.size; simp; omega) (w3.heap.size + 1) (by simp) ?_; intro g5 cap5 w5 hown5 hgrow hat hlt5)
      go_roundg (n - (k + 1))
      case measure => omega
      case rel =>
        have hS5 : Strm w5 b (N + 1 + 2 * k + 1 + 1) := (hS3.alloc _).mod (S := fun i => w.heap.size ≤ i) ((Mod.refl _ _).grown hgrow (fun g hg => .inl (own_block hown3 g hg))) (fun i hi h => by omega)
        refine ⟨bs ++ [x], some ⟨g5, 0, none⟩, cap5, by simp [HKK.out], by simp [HKK.out]; omega, by simp [HKK.out], by simp [HKK.out], ?_, ?_, (hm3.alloc _).grown hgrow (fun g hg => .inr (own_block hown3 g hg))⟩
        · simpa [boolsV, HKK.out] using hown5
        · rw [List.length_append, HKK.out]
          exact hS5.more (by simp; omega)
    · have hke : k = n := by omega
      subst hke
      go_wp2_with fail
      go_ret
      refine ⟨_, bs, by rw [HKK.out]; exact hn20, rfl, by rw [HKK.out]; exact hown, hS1.more (by omega), hm⟩

set_option maxRecDepth 100000 in
set_option maxHeartbeats 1000000 in
theorem share_calls (w : World) (b N : Nat) (hS : Strm w b N) (hN : N ≤ 900000000) :
    Calls Try.prog 48 #[.pointer (some ⟨b, 0, none⟩)] w (FracPost w b (N + 1) (fun n d => -1 ≤ n ∧ n ≤ 1000000 ∧ 0 ≤ d ∧ d ≤ 1000001)) := by
  have hlt := hS.lt
  go_enter Try.func48, Try.ntmps48
  go_wp2_with fail
  refine (pick_calls _ b N _ _ [0, 0, 1, 2, 3, 4, 4, 5, 6, 7, 8, 9] (hS.pure ((((Mod.refl _ _).alloc _).alloc _).alloc _)) (by omega) (Blk.thd _ _ _ _ _) (by omega) (by simp) (by simp)).mono ?_
  rintro e w' ⟨k, hk, rfl, hS', hM⟩
  have hk0 : 0 ≤ k ∧ k ≤ 9 := by simp at hk; omega
  obtain ⟨i, rfl⟩ := Int.eq_ofNat_of_zero_le hk0.1
  have hb1 := (((Blk.new w 30 #[.int .i64 0, .int .i64 0]).alloc _).alloc _).modb hM (by omega)
  have hb2 := ((Blk.snd w (.cells #[.int .i64 0, .int .i64 0] 30) 30 _).alloc _).modb hM (by omega)
  have hz := hM.size
  simp only [World.size_alloc] at hz
  have hM2 : Mod (· = b) w w' := (((((Mod.refl _ _).alloc _).alloc _)).alloc _).trans hM
  obtain ⟨n, d, hmem, c0, c1⟩ := Blk.frac_at [(1, 2), (0, 1), (1, 1), (2, 4), (1, 3), (999999, 1000000), (3, 2), (-1, 2), (1, 0), (1, 1000001)] hb2 (i := i) (by simp; omega)
  have hP : -1 ≤ n ∧ n ≤ 1000000 ∧ 0 ≤ d ∧ d ≤ 1000001 := by simp at hmem; omega
  have q0 := hb1.cell 0; have qf0 := hb1.frozen 0; have q1 := hb1.cell 1; have qf1 := hb1.frozen 1; simp at q0 q1
  clear hb1 hb2 hmem hk
  go_wp2_with fail
  refine bodyPost_ret (v := .agg #[.int .i64 n, .int .i64 d]) (by simp [results, Try.results48, go_sem, q0, q1]) rfl ?_
  exact ⟨n, d, hP, rfl, (hS'.setCell hlt _).setCell hlt _, (hM2.setCell (.inr (Nat.le_refl _)) _).setCell (.inr (Nat.le_refl _)) _⟩

set_option maxRecDepth 100000 in
set_option maxHeartbeats 400000 in
theorem shareFault_calls (w : World) (n d : Int) : Calls Try.prog 50 #[.agg #[.int .i64 n, .int .i64 d]] w (IntPost w (shareErr n d)) := by
  go_enter Try.func50, Try.ntmps50
  go_wp2_with fail
  refine (rin_calls _ _ _ _).mono ?_
  rintro e w' ⟨rfl, rfl⟩
  cases h1 : inB d 1 1000000
  · go_wp2_with fail
    go_ret
    refine IntPost.of ?_ ((Mod.refl _ _).alloc _)
    unfold shareErr
    have := inB_false h1
    rw [if_neg (by omega)]
  · have h1' := inB_true h1
    obtain ⟨h2, h3⟩ := h1'
    clear h1
    go_wp2_with fail
    refine (rin_calls _ _ _ _).mono ?_
    rintro e w' ⟨rfl, rfl⟩
    cases h4 : inB n 0 d
    · go_wp2_with fail
      go_ret
      refine IntPost.of ?_ ((Mod.refl _ _).alloc _)
      unfold shareErr
      have := inB_false h4
      rw [if_neg (by omega)]
    · go_wp2_with fail
      go_ret
      refine IntPost.of ?_ ((Mod.refl _ _).alloc _)
      unfold shareErr
      have := inB_true h4
      rw [if_pos (by omega)]

end Go.Proofs.Ytpacmdiodnnofaa
