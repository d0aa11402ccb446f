/- Allocate: slices.Clone; the plain spec. -/
import Derived.Test.YtpacmdiodnnofaaAllocB
import Derived.Test.YtpacmdiodnnofaaAllocC
import Derived.Test.YtpacmdiodnnofaaGainsOf
import Derived.Test.YtpacmdiodnnofaaSortI
import Derived.Laws.CopyOwn
namespace Go.Proofs.Ytpacmdiodnnofaa
set_option linter.unusedVariables false
set_option linter.unusedSimpArgs false
open Go.RowKit
attribute [local go_sem ↓] Go.wp_at_zero Go.wp_at_succ

theorem Blk.grown {w w' : World} {g : Nat} {t : TypeId} {cs : Array Value} {row : Option Nat} (h : Blk w g t cs) (hg : w.grownBy w' row) (hne : some g ≠ row) : Blk w' g t cs := (hg.block g h.lt hne).trans h
theorem news_of_row {w : World} {t : TypeId} {g off : Nat} {xs : List Value} (h : RowAt w t g off xs) : ∀ j u, xs[j]? = some u → w.cell? ((⟨g, off, none⟩ : Addr).add j) = some u := by
  intro j u hu
  have := h.cell hu
  unfold Addr.add
  split
  · rename_i e
    subst e
    simpa using this
  · exact this
theorem intsV_one (zs : List Int) : ∀ u ∈ intsV zs, u.oneCell' = true := by
  intro u hu
  simp [intsV] at hu
  obtain ⟨z, _, rfl⟩ := hu
  rfl

set_option maxRecDepth 100000 in
set_option maxHeartbeats 1000000 in
theorem clone_calls (w : World) (v : Value) (n base : Nat) (zs : List Int) (hown : w.ownsRow base 3 1 v n (intsV zs)) (hl : zs.length ≤ 2000) : Calls Try.prog 103 #[v] w (OwnPost w 3 (intsV zs)) := by
  obtain ⟨i0, hi0, hz0, hz1, hz2⟩ := info_parts info_int_
  have hs := Sl.of_own hown
  have hn := own_len hown
  have hn : n = zs.length := by simpa [intsV] using hn
  subst hn
  have hq := fun W a n c => Lib.run_eql_slice_nil (P := Try.prog) W 22 3 a n c 0 0 Try.underlying22
  rcases hown.2 with ⟨rfl, h0⟩ | ⟨g, cap, cur, rfl, hg, hh, hc, hcm, hsz, hx⟩
  · go_enter Try.func103, Try.ntmps103
    go_wp2_with fail
    go_ret
    refine ⟨_, 0, rfl, ⟨?_, .inl ⟨rfl, rfl⟩⟩, Mod.refl _ _⟩
    have : zs = [] := List.eq_nil_of_length_eq_zero h0
    subst this
    rfl
  · have hnews : ∀ j u, (intsV zs)[j]? = some u → (w.alloc (.cells #[] 3)).cell? ((⟨g, 0, none⟩ : Addr).add j) = some u := by
      have hrow : RowAt w 3 g 0 (intsV zs) := ⟨cur, (0, 0), hh, fun i u hu => by
        rw [← hx, List.getElem?_take] at hu
        split at hu
        · simpa using hu
        · cases hu⟩
      exact news_of_row (hrow.mod ((Mod.refl (fun _ => False) w).alloc _) id)
    have HN := Lib.hid hnews
    clear hnews hx hh hown hs
    go_enter Try.func103, Try.ntmps103
    go_wp2_with (at_builtin; (refine wpList_append_own_at _ rfl _ _ _ rfl w.heap.size 3 i0 _ 1 8 Try.underlying22 hi0 hz0 hz1 hz2 rfl (by omega) _ 0 [] rfl (own_of_blk (xs := []) (Blk.new w 3 #[]) (Nat.le_refl _) rfl (by omega)) ⟨g, 0, none⟩ zs.length cap (intsV zs) rfl (by simp [intsV]) HN.out (intsV_one zs) (by simp [maxLen]; omega) (by omega) (by simp) ?_; intro v5 w5 hown5 hgrow _ _))
    go_ret
    refine ⟨_, _, rfl, by simpa using hown5, ((Mod.refl _ _).alloc _).grown hgrow (fun k hk => ?_)⟩
    have hk2 : some w.heap.size = some k := hk
    injection hk2 with hk2
    exact .inr (by omega)

/-- The quotients. -/
def quos (zs : List Int) (many sum : Int) : List Int := (List.range zs.length).map (quoA zs many sum)
def sumZ (zs : List Int) : Int := sumTo (zAt zs) zs.length
def leftZ (zs : List Int) (many sum : Int) : Nat := (many - sumTo (quoA zs many sum) zs.length).toNat
def AllocSpec (zs : List Int) (many : Int) (out : List Int) : Prop :=
  (sumZ zs ≤ many ∧ out = zs) ∨ (many < sumZ zs ∧ ∃ s, IsOrd (remA zs many (sumZ zs)) zs.length s ∧ out = incs (quos zs many (sumZ zs)) (s.take (leftZ zs many (sumZ zs))))
theorem sumTo_nonneg {f : Nat → Int} (n : Nat) (h : ∀ i, i < n → 0 ≤ f i) : 0 ≤ sumTo f n := by
  induction n with
  | zero => simp [sumTo]
  | succ n ih =>
    have h1 := ih (fun i hi => h i (by omega))
    have h2 := h n (by omega)
    simp only [sumTo]
    omega
theorem sumTo_le {f : Nat → Int} {M : Int} (n : Nat) (h : ∀ i, i < n → f i ≤ M) : sumTo f n ≤ n * M := by
  induction n with
  | zero => simp [sumTo]
  | succ n ih =>
    have h1 := ih (fun i hi => h i (by omega))
    have h2 := h n (by omega)
    have e : ((n + 1 : Nat) : Int) * M = n * M + M := by rw [Int.natCast_add, Int.add_mul]; simp
    simp only [sumTo]
    omega
theorem sumTo_zero {f : Nat → Int} (n : Nat) (h : ∀ i, i < n → 0 ≤ f i) (h0 : sumTo f n = 0) : ∀ i, i < n → f i = 0 := by
  induction n with
  | zero => intro i hi; omega
  | succ n ih =>
    have h1 := sumTo_nonneg n (fun i hi => h i (by omega))
    have h2 := h n (by omega)
    simp only [sumTo] at h0
    intro i hi
    by_cases e : i = n
    · subst e; omega
    · exact ih (fun i hi => h i (by omega)) (by omega) i (by omega)
theorem sumTo_congr {f g : Nat → Int} (n : Nat) (h : ∀ i, i < n → f i = g i) : sumTo f n = sumTo g n := by
  induction n with
  | zero => rfl
  | succ n ih =>
    simp only [sumTo]
    rw [ih (fun i hi => h i (by omega)), h n (by omega)]
theorem zAt_lt (zs : List Int) {i : Nat} (h : i < zs.length) : zAt zs i = zs[i] := by simp [zAt, List.getD, h]
theorem zAt_mem (zs : List Int) {i : Nat} (h : i < zs.length) : zAt zs i ∈ zs := by rw [zAt_lt zs h]; exact List.getElem_mem _
theorem zs_eq (zs : List Int) : (List.range zs.length).map (zAt zs) = zs := by
  apply List.ext_getElem
  · simp
  · intro i h1 h2
    simp [zAt_lt zs h2]
theorem zs_zero (zs : List Int) (hz : ∀ z ∈ zs, 0 ≤ z) (h : sumZ zs = 0) : zs = List.replicate zs.length 0 := by
  have h1 := sumTo_zero zs.length (fun i hi => hz _ (zAt_mem zs hi)) h
  apply List.ext_getElem
  · simp
  · intro i h2 h3
    rw [← zAt_lt zs h2, h1 i h2]
    simp
theorem quoA_full (zs : List Int) {sum : Int} (hs : 0 < sum) (i : Nat) : quoA zs sum sum i = zAt zs i := by
  unfold quoA zAt
  exact Int.mul_ediv_cancel_left _ (by omega)
/-- What the reference does in its loop. -/
theorem AllocSpec.steps {zs : List Int} {many : Int} {out : List Int} (h : AllocSpec zs many out) (hle : many ≤ sumZ zs) (hs : 0 < sumZ zs) :
    ∃ s, (0 < leftZ zs many (sumZ zs) → IsOrd (remA zs many (sumZ zs)) zs.length s) ∧ out = incs (quos zs many (sumZ zs)) (s.take (leftZ zs many (sumZ zs))) := by
  rcases h with ⟨h1, rfl⟩ | ⟨h1, s, h2, h3⟩
  · have e : many = sumZ out := by omega
    have e2 : sumTo (quoA out many (sumZ out)) out.length = sumZ out := by
      rw [e]
      exact sumTo_congr _ (fun i _ => quoA_full out hs i)
    have e3 : leftZ out many (sumZ out) = 0 := by
      unfold leftZ
      rw [e2]
      omega
    refine ⟨[], fun h => by omega, ?_⟩
    rw [List.take_nil]
    show out = quos out many (sumZ out)
    unfold quos
    rw [e, show (quoA out (sumZ out) (sumZ out)) = zAt out from funext (fun i => quoA_full out hs i), zs_eq]
  · exact ⟨s, fun _ => h2, h3⟩
theorem quoA_bounds (zs : List Int) {many sum : Int} (hz : ∀ z ∈ zs, 0 ≤ z ∧ z ≤ 2000) (hm : 0 ≤ many ∧ many ≤ 2000) (hs : 0 < sum) {i : Nat} (hi : i < zs.length) : 0 ≤ quoA zs many sum i ∧ quoA zs many sum i ≤ 4000000 := by
  have h := hz _ (zAt_mem zs hi)
  unfold quoA
  change 0 ≤ zAt zs i ∧ _ at h
  have e : zs.getD i 0 = zAt zs i := rfl
  rw [e]
  have a1 : 0 ≤ many * zAt zs i := Int.mul_nonneg hm.1 h.1
  have a2 : many * zAt zs i ≤ 2000 * 2000 := Int.mul_le_mul hm.2 h.2 h.1 (by omega)
  have b1 := Int.ediv_nonneg a1 (show 0 ≤ sum by omega)
  have b2 : many * zAt zs i / sum ≤ many * zAt zs i := Int.ediv_le_self _ a1
  omega
theorem quoSum_bounds (zs : List Int) {many sum : Int} (hz : ∀ z ∈ zs, 0 ≤ z ∧ z ≤ 2000) (hm : 0 ≤ many ∧ many ≤ 2000) (hs : 0 < sum) {k : Nat} (hk : k ≤ zs.length) : 0 ≤ sumTo (quoA zs many sum) k ∧ sumTo (quoA zs many sum) k ≤ k * 4000000 :=
  ⟨sumTo_nonneg k (fun i hi => (quoA_bounds zs hz hm hs (by omega)).1), sumTo_le k (fun i hi => (quoA_bounds zs hz hm hs (by omega)).2)⟩

end Go.Proofs.Ytpacmdiodnnofaa
