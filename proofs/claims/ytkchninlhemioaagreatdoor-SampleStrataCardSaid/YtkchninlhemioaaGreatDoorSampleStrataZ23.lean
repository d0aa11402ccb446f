/- Texts of the proof of SampleStrata, put together: AllocD, AllocE, AllocF. -/
import Derived.Test.YtkchninlhemioaaGreatDoorSampleStrataZ10
import Derived.Test.YtkchninlhemioaaGreatDoorSampleStrataZ18
import Derived.Test.YtkchninlhemioaaGreatDoorSampleStrataZ21
import Derived.Laws.CopyOwn
/- Allocate: slices.Clone; the plain spec. -/
namespace Go.Proofs.YtkchninlhemioaaGreatDoor
set_option linter.unusedVariables false
set_option linter.unusedSimpArgs false
open Go.RowKit
attribute [local go_sem ↓] Go.wp_at_zero Go.wp_at_succ

theorem Blk.grown {w w' : World} {g : Nat} {t : TypeId} {cs : Array Value} {row : Option Nat} (h : Blk w g t cs) (hg : w.grownBy w' row) (hne : some g ≠ row) : Blk w' g t cs := (hg.block g h.lt hne).trans h
theorem news_of_row {w : World} {t : TypeId} {g off : Nat} {xs : List Value} (h : RowAt w t g off xs) : ∀ j u, xs[j]? = some u → w.cell? ((⟨g, off, none⟩ : Addr).add j) = some u := by
  intro j u hu
  have := h.cell hu
  unfold Addr.add
  split
  · rename_i e
    subst e
    simpa using this
  · exact this
theorem intsV_one (zs : List Int) : ∀ u ∈ intsV zs, u.oneCell' = true := by
  intro u hu
  simp [intsV] at hu
  obtain ⟨z, _, rfl⟩ := hu
  rfl

set_option maxRecDepth 100000 in
set_option maxHeartbeats 1000000 in
theorem clone_calls (w : World) (v : Value) (n base : Nat) (zs : List Int) (hown : w.ownsRow base 3 1 v n (intsV zs)) (hl : zs.length ≤ 2000) : Calls Tryz.prog 74 #[v] w (OwnPost w 3 (intsV zs)) := by
  obtain ⟨i0, hi0, hz0, hz1, hz2⟩ := info_parts info_int_
  have hs := Sl.of_own hown
  have hn := own_len hown
  have hn : n = zs.length := by simpa [intsV] using hn
  subst hn
  have hq := fun W a n c => Lib.run_eql_slice_nil (P := Tryz.prog) W 22 3 a n c 0 0 Tryz.underlying22
  rcases hown.2 with ⟨rfl, h0⟩ | ⟨g, cap, cur, rfl, hg, hh, hc, hcm, hsz, hx⟩
  · go_enter Tryz.func74, Tryz.ntmps74
    go_wp2_with fail
    go_ret
    refine ⟨_, 0, rfl, ⟨?_, .inl ⟨rfl, rfl⟩⟩, Mod.refl _ _⟩
    have : zs = [] := List.eq_nil_of_length_eq_zero h0
    subst this
    rfl
  · have hnews : ∀ j u, (intsV zs)[j]? = some u → (w.alloc (.cells #[] 3)).cell? ((⟨g, 0, none⟩ : Addr).add j) = some u := by
      have hrow : RowAt w 3 g 0 (intsV zs) := ⟨cur, (0, 0), hh, fun i u hu => by
        rw [← hx, List.getElem?_take] at hu
        split at hu
        · simpa using hu
        · cases hu⟩
      exact news_of_row (hrow.mod ((Mod.refl (fun _ => False) w).alloc _) id)
    have HN := Lib.hid hnews
    clear hnews hx hh hown hs
    go_enter Tryz.func74, Tryz.ntmps74
    go_wp2_with (at_builtin; (refine wpList_append_own_at _ rfl _ _ _ rfl w.heap.size 3 i0 _ 1 8 Tryz.underlying22 hi0 hz0 hz1 hz2 rfl (by omega) _ 0 [] rfl (own_of_blk (xs := []) (Blk.new w 3 #[]) (Nat.le_refl _) rfl (by omega)) ⟨g, 0, none⟩ zs.length cap (intsV zs) rfl (by simp [intsV]) HN.out (intsV_one zs) (by simp [maxLen]; omega) (by omega) (by simp) ?_; intro v5 w5 hown5 hgrow _ _))
    go_ret
    refine ⟨_, _, rfl, by simpa using hown5, ((Mod.refl _ _).alloc _).grown hgrow (fun k hk => ?_)⟩
    have hk2 : some w.heap.size = some k := hk
    injection hk2 with hk2
    exact .inr (by omega)

/-- The quotients. -/
def quos (zs : List Int) (many sum : Int) : List Int := (List.range zs.length).map (quoA zs many sum)
def sumZ (zs : List Int) : Int := sumTo (zAt zs) zs.length
def leftZ (zs : List Int) (many sum : Int) : Nat := (many - sumTo (quoA zs many sum) zs.length).toNat
def AllocSpec (zs : List Int) (many : Int) (out : List Int) : Prop :=
  (sumZ zs ≤ many ∧ out = zs) ∨ (many < sumZ zs ∧ ∃ s, IsOrd (remA zs many (sumZ zs)) zs.length s ∧ out = incs (quos zs many (sumZ zs)) (s.take (leftZ zs many (sumZ zs))))
theorem sumTo_nonneg {f : Nat → Int} (n : Nat) (h : ∀ i, i < n → 0 ≤ f i) : 0 ≤ sumTo f n := by
  induction n with
  | zero => simp [sumTo]
  | succ n ih =>
    have h1 := ih (fun i hi => h i (by omega))
    have h2 := h n (by omega)
    simp only [sumTo]
    omega
theorem sumTo_le {f : Nat → Int} {M : Int} (n : Nat) (h : ∀ i, i < n → f i ≤ M) : sumTo f n ≤ n * M := by
  induction n with
  | zero => simp [sumTo]
  | succ n ih =>
    have h1 := ih (fun i hi => h i (by omega))
    have h2 := h n (by omega)
    have e : ((n + 1 : Nat) : Int) * M = n * M + M := by rw [Int.natCast_add, Int.add_mul]; simp
    simp only [sumTo]
    omega
theorem sumTo_zero {f : Nat → Int} (n : Nat) (h : ∀ i, i < n → 0 ≤ f i) (h0 : sumTo f n = 0) : ∀ i, i < n → f i = 0 := by
  induction n with
  | zero => intro i hi; omega
  | succ n ih =>
    have h1 := sumTo_nonneg n (fun i hi => h i (by omega))
    have h2 := h n (by omega)
    simp only [sumTo] at h0
    intro i hi
    by_cases e : i = n
    · subst e; omega
    · exact ih (fun i hi => h i (by omega)) (by omega) i (by omega)
theorem sumTo_congr {f g : Nat → Int} (n : Nat) (h : ∀ i, i < n → f i = g i) : sumTo f n = sumTo g n := by
  induction n with
  | zero => rfl
  | succ n ih =>
    simp only [sumTo]
    rw [ih (fun i hi => h i (by omega)), h n (by omega)]
theorem zAt_lt (zs : List Int) {i : Nat} (h : i < zs.length) : zAt zs i = zs[i] := by simp [zAt, List.getD, h]
theorem zAt_mem (zs : List Int) {i : Nat} (h : i < zs.length) : zAt zs i ∈ zs := by rw [zAt_lt zs h]; exact List.getElem_mem _
theorem zs_eq (zs : List Int) : (List.range zs.length).map (zAt zs) = zs := by
  apply List.ext_getElem
  · simp
  · intro i h1 h2
    simp [zAt_lt zs h2]
theorem zs_zero (zs : List Int) (hz : ∀ z ∈ zs, 0 ≤ z) (h : sumZ zs = 0) : zs = List.replicate zs.length 0 := by
  have h1 := sumTo_zero zs.length (fun i hi => hz _ (zAt_mem zs hi)) h
  apply List.ext_getElem
  · simp
  · intro i h2 h3
    rw [← zAt_lt zs h2, h1 i h2]
    simp
theorem quoA_full (zs : List Int) {sum : Int} (hs : 0 < sum) (i : Nat) : quoA zs sum sum i = zAt zs i := by
  unfold quoA zAt
  exact Int.mul_ediv_cancel_left _ (by omega)
/-- What the reference does in its loop. -/
theorem AllocSpec.steps {zs : List Int} {many : Int} {out : List Int} (h : AllocSpec zs many out) (hle : many ≤ sumZ zs) (hs : 0 < sumZ zs) :
    ∃ s, (0 < leftZ zs many (sumZ zs) → IsOrd (remA zs many (sumZ zs)) zs.length s) ∧ out = incs (quos zs many (sumZ zs)) (s.take (leftZ zs many (sumZ zs))) := by
  rcases h with ⟨h1, rfl⟩ | ⟨h1, s, h2, h3⟩
  · have e : many = sumZ out := by omega
    have e2 : sumTo (quoA out many (sumZ out)) out.length = sumZ out := by
      rw [e]
      exact sumTo_congr _ (fun i _ => quoA_full out hs i)
    have e3 : leftZ out many (sumZ out) = 0 := by
      unfold leftZ
      rw [e2]
      omega
    refine ⟨[], fun h => by omega, ?_⟩
    rw [List.take_nil]
    show out = quos out many (sumZ out)
    unfold quos
    rw [e, show (quoA out (sumZ out) (sumZ out)) = zAt out from funext (fun i => quoA_full out hs i), zs_eq]
  · exact ⟨s, fun _ => h2, h3⟩
theorem quoA_bounds (zs : List Int) {many sum : Int} (hz : ∀ z ∈ zs, 0 ≤ z ∧ z ≤ 2000) (hm : 0 ≤ many ∧ many ≤ 2000) (hs : 0 < sum) {i : Nat} (hi : i < zs.length) : 0 ≤ quoA zs many sum i ∧ quoA zs many sum i ≤ 4000000 := by
  have h := hz _ (zAt_mem zs hi)
  unfold quoA
  change 0 ≤ zAt zs i ∧ _ at h
  have e : zs.getD i 0 = zAt zs i := rfl
  rw [e]
  have a1 : 0 ≤ many * zAt zs i := Int.mul_nonneg hm.1 h.1
  have a2 : many * zAt zs i ≤ 2000 * 2000 := Int.mul_le_mul hm.2 h.2 h.1 (by omega)
  have b1 := Int.ediv_nonneg a1 (show 0 ≤ sum by omega)
  have b2 : many * zAt zs i / sum ≤ many * zAt zs i := Int.ediv_le_self _ a1
  omega
theorem quoSum_bounds (zs : List Int) {many sum : Int} (hz : ∀ z ∈ zs, 0 ≤ z ∧ z ≤ 2000) (hm : 0 ≤ many ∧ many ≤ 2000) (hs : 0 < sum) {k : Nat} (hk : k ≤ zs.length) : 0 ≤ sumTo (quoA zs many sum) k ∧ sumTo (quoA zs many sum) k ≤ k * 4000000 :=
  ⟨sumTo_nonneg k (fun i hi => (quoA_bounds zs hz hm hs (by omega)).1), sumTo_le k (fun i hi => (quoA_bounds zs hz hm hs (by omega)).2)⟩

end Go.Proofs.YtkchninlhemioaaGreatDoor

/- allocate of package sample. -/
namespace Go.Proofs.YtkchninlhemioaaGreatDoor
set_option linter.unusedVariables false
set_option linter.unusedSimpArgs false
open Go.RowKit
attribute [local go_sem ↓] Go.wp_at_zero Go.wp_at_succ

/-- The quotients of the first k, then zeros. -/
def qRow (f : Nat → Int) (n k : Nat) : List Int := (List.range n).map fun i => if i < k then f i else 0
theorem qRow_len (f : Nat → Int) (n k : Nat) : (qRow f n k).length = n := by simp [qRow]
theorem qRow_zero (f : Nat → Int) (n : Nat) : qRow f n 0 = List.replicate n 0 := by
  apply List.ext_getElem
  · simp [qRow]
  · intro i h1 h2
    simp [qRow]
theorem qRow_full (f : Nat → Int) (n : Nat) : qRow f n n = (List.range n).map f := by
  apply List.ext_getElem
  · simp [qRow]
  · intro i h1 h2
    simp [qRow] at h1 ⊢
    intro h
    omega
theorem qRow_get (f : Nat → Int) (n k : Nat) (h : k < n) : (intsV (qRow f n k)).toArray[k]? = some (.int .i64 0) := by simp [intsV, qRow, h]
theorem qRow_got (f : Nat → Int) (n k : Nat) (h : k < n) : (intsV (qRow f n (k + 1))).toArray[k]? = some (.int .i64 (f k)) := by simp [intsV, qRow, h]
theorem qRow_set (f : Nat → Int) (n k : Nat) (h : k < n) : (intsV (qRow f n k)).toArray.setIfInBounds k (.int .i64 (f k)) = (intsV (qRow f n (k + 1))).toArray := by
  apply Array.ext'
  rw [Array.toList_setIfInBounds]
  apply List.ext_getElem
  · simp [intsV, qRow]
  · intro i h1 h2
    simp [intsV, qRow] at h1 h2
    by_cases e : i = k
    · subst e
      simp [intsV, qRow]
    · rw [List.getElem_set_ne (by omega)]
      simp only [intsV, qRow, List.getElem_map, List.getElem_range]
      by_cases h3 : i < k
      · rw [if_pos h3, if_pos (by omega)]
      · rw [if_neg h3, if_neg (by omega)]
theorem incs_mem (ps : List Nat) : ∀ (l : List Int) (M : Int), (∀ x ∈ l, 0 ≤ x ∧ x ≤ M) → (∀ p ∈ ps, p < l.length) → ∀ x ∈ incs l ps, 0 ≤ x ∧ x ≤ M + ps.length := by
  induction ps with
  | nil => intro l M h _ x hx; simpa [incs] using h x hx
  | cons p ps ih =>
    intro l M h hp x hx
    have hpl := hp p (by simp)
    have hd : l.getD p 0 ∈ l := by
      simp only [List.getD]
      rw [List.getElem?_eq_getElem hpl]
      exact List.getElem_mem _
    have hm := h _ hd
    have := ih (l.set p (l.getD p 0 + 1)) (M + 1) (fun y hy => ?_) (fun q hq => by rw [List.length_set]; exact hp q (by simp [hq])) x (by simpa [incs] using hx)
    · simp only [List.length_cons]
      omega
    · rcases List.mem_or_eq_of_mem_set hy with h1 | h1
      · have := h y h1; omega
      · omega

theorem splice_all {L cs : List Value} (h : L.length = cs.length) : splice L 0 cs = cs := by
  unfold splice
  simp [h]
def AllocPost (w : World) (zs : List Int) (many : Int) (e : Ending) (w' : World) : Prop :=
  ∃ out v n, AllocSpec zs many out ∧ e = .returned v ∧ w'.ownsRow w.heap.size 3 1 v n (intsV out) ∧ Pure w w'
def SumRel (W : World) (zs : List Int) (g gk : Nat) (i : Value) (wr : World) : Prop :=
  ∃ k : Nat, zs.length - k = gk ∧ k ≤ zs.length ∧ i = .int .i64 (k : Int) ∧ Blk wr g 3 #[.int .i64 (sumTo (zAt zs) k)] ∧ Mod (fun j => j = g) W wr
def QuoRel (W : World) (zs : List Int) (many sum : Int) (g gk : Nat) (l o i : Value) (wr : World) : Prop :=
  ∃ (k : Nat) (A : Option Addr) (cap : Nat), zs.length - k = gk ∧ k ≤ zs.length ∧ i = .int .i64 (k : Int) ∧ l = .int .i64 (many - sumTo (quoA zs many sum) k) ∧ o = .slice A k cap ∧
    wr.ownsRow (g + 1) 3 1 (.slice A k cap) k (natsV (List.range k)) ∧ Blk wr g 3 (intsV (qRow (quoA zs many sum) zs.length k)).toArray ∧ Mod (fun j => j = g) W wr
def IncRel (W : World) (zs : List Int) (many sum : Int) (s : List Nat) (g l gk : Nat) (i : Value) (wr : World) : Prop :=
  ∃ k : Nat, l - k = gk ∧ k ≤ l ∧ i = .int .i64 (k : Int) ∧ Blk wr g 3 (intsV (incs (quos zs many sum) (s.take k))).toArray ∧ Mod (fun j => j = g) W wr

set_option maxRecDepth 100000 in
set_option maxHeartbeats 8000000 in
theorem allocate_calls (w : World) (v : Value) (zs : List Int) (many : Int) (hv : Sl w 3 1 v (intsV zs)) (hl : zs.length < 20) (hz : ∀ z ∈ zs, 0 ≤ z ∧ z ≤ 2000) (hm : 0 ≤ many ∧ many ≤ 2000) :
    Calls Tryz.prog 50 #[v, .int .i64 many] w (AllocPost w zs many) := by
  obtain ⟨i0, hi0, hz0, hz1, hz2⟩ := info_parts info_int_
  obtain ⟨A, n, c, rfl⟩ := hv.form
  obtain ⟨hn, hnc, hcc⟩ := hv.len
  rw [show (intsV zs).length = zs.length from by simp [intsV]] at hn
  subst hn
  have HZ := Lib.hid hz
  clear hz
  have hmk := run_make_one (P := Tryz.prog) 22 3 (.int .i64 0) 8 Tryz.underlying22 info_int_ rfl .i64 .i64 zs.length (zs.length : Int) rfl (by omega) (by omega) (intsV (List.replicate zs.length 0)).toArray (by rw [intsV_zeros])
  go_enter Tryz.func50, Tryz.ntmps50
  go_wp2_with fail
  have b2 := ((Blk.new w 22 #[.slice A zs.length c]).alloc (.cells #[.int .i64 many] 3)).alloc (.cells #[.int .i64 0] 3)
  have b3 := (Blk.snd w (.cells #[.slice A zs.length c] 22) 3 #[.int .i64 many]).alloc (.cells #[.int .i64 0] 3)
  have b5 := Blk.thd w (.cells #[.slice A zs.length c] 22) (.cells #[.int .i64 many] 3) 3 #[.int .i64 0]
  have m0 : Pure w (((w.alloc (.cells #[.slice A zs.length c] 22)).alloc (.cells #[.int .i64 many] 3)).alloc (.cells #[.int .i64 0] 3)) := (((Mod.refl _ _).alloc _).alloc _).alloc _
  have hv0 := hv.pure m0
  generalize (((w.alloc (.cells #[.slice A zs.length c] 22)).alloc (.cells #[.int .i64 many] 3)).alloc (.cells #[.int .i64 0] 3)) = W at *
  generalize hdb : w.heap.size = b at *
  have hle := Nat.le_of_eq hdb
  have hge := Nat.le_of_eq hdb.symm
  have hbW := b5.lt
  clear hdb
  go_loopg [17] zs.length (fun gk i wr => SumRel W zs (b + 1 + 1) gk i wr)
  case atStart => exact ⟨0, by omega, by omega, rfl, b5, Mod.refl _ _⟩
  case round =>
    obtain ⟨k, rfl, hk, rfl, hb, h1⟩ := hrel
    have hs1 := sumTo_nonneg (f := zAt zs) k (fun i hi => (HZ.out _ (zAt_mem zs (by omega))).1)
    have hs2 := sumTo_le (f := zAt zs) (M := 2000) k (fun i hi => (HZ.out _ (zAt_mem zs (by omega))).2)
    by_cases hlt : k < zs.length
    · obtain ⟨g, off, rfl, hrow⟩ := hv0.row (by omega)
      have hne : g ≠ b + 1 + 1 := by
        have h2 := hv.row (by omega)
        obtain ⟨g', off', hA, hrow'⟩ := h2
        injection hA with hA
        injection hA with hg
        have := hrow'.lt
        omega
      have hq := (hrow.mod h1 hne).cell (intsV_get zs k hlt)
      have q5 := hb.cell 0
      have f5 := hb.frozen 0
      simp at q5
      have hzk := HZ.out _ (List.getElem_mem hlt)
      have HT : Hid (sumTo (zAt zs) (k + 1) = sumTo (zAt zs) k + zs[k]) := by
        show sumTo (zAt zs) (k + 1) = _
        simp only [sumTo]
        rw [zAt_lt zs hlt]
      clear hrow
      generalize zs[k] = y at *
      generalize sumTo (zAt zs) k = t0 at *
      go_wp2_with fail
      go_roundg (zs.length - (k + 1))
      case measure => omega
      case rel =>
        refine ⟨k + 1, rfl, hlt, by simp, ?_, Mod.setCell (S := fun j => j = b + 1 + 1) (p := ⟨b + 1 + 1, 0, none⟩) h1 (.inl rfl) _⟩
        have hset := hb.set 0 (.int .i64 (t0 + y))
        rw [HT.out]
        simpa using hset
    · have hke : k = zs.length := by omega
      subst hke
      have HS : Hid (sumTo (zAt zs) zs.length = sumZ zs) := rfl
      generalize hsum : sumTo (zAt zs) zs.length = sum at *
      have HSUM : Hid (sumZ zs = sum) := hsum
      clear hsum HS hlt hk
      have c2 := (b2.mod h1 (by omega)).cell 0
      have c3 := (b3.mod h1 (by omega)).cell 0
      have c5 := hb.cell 0
      simp at c2 c3 c5
      have B0 := Blk.new wr 3 (intsV (List.replicate zs.length 0)).toArray
      have d2 := cell_alloc c2 (.cells (intsV (List.replicate zs.length 0)).toArray 3)
      have d3 := cell_alloc c3 (.cells (intsV (List.replicate zs.length 0)).toArray 3)
      have d5 := cell_alloc c5 (.cells (intsV (List.replicate zs.length 0)).toArray 3)
      have m1 : Pure w (wr.alloc (.cells (intsV (List.replicate zs.length 0)).toArray 3)) := (m0.trans' h1 (fun i hi hlt => by omega)).alloc _
      have hv1 := hv.pure m1
      have hbig : b + 1 + 1 < wr.heap.size := hb.lt
      by_cases hms : sum ≤ many
      · have hnews : ∀ j u, (intsV zs)[j]? = some u → ∀ g off, A = some ⟨g, off, none⟩ → (wr.alloc (.cells (intsV (List.replicate zs.length 0)).toArray 3)).cell? ((⟨g, off, none⟩ : Addr).add j) = some u := by
          intro j u hu g off hA
          subst hA
          have hpos : 0 < zs.length := by
            rcases Nat.eq_zero_or_pos zs.length with h | h
            · have : zs = [] := List.eq_nil_of_length_eq_zero h
              subst this
              simp [intsV] at hu
            · exact h
          obtain ⟨g', off', hA, hrow⟩ := hv1.row hpos
          injection hA with hA
          injection hA with hg ho
          subst hg ho
          exact news_of_row hrow j u hu
        have HN := Lib.hid hnews
        clear hnews
        go_wp2_with (refine wpList_copy_splice (o := ⟨some 33, _, _, _, _, _⟩) rfl (.tmp 31) (.tmp 32) 22 22 rfl 3 Tryz.underlying22 (by kernel_rfl) _ _ _ _ _ _ rfl rfl wr.heap.size 0 (intsV (List.replicate zs.length 0)) 3 B0 (intsV zs) (by simp [intsV]) (fun h => ⟨rfl, ?_⟩) (by simp [intsV]) (intsV_one zs) w.heap.size w m1.below (by omega) ?_; rotate_left; intro w2 HG2 hB2)
        · go_ret
          refine ⟨zs, _, zs.length, .inl ⟨by rw [HSUM.out]; exact hms, rfl⟩, rfl, own_of_blk (t := 3) ?_ (by omega) (by simp [intsV]) (by omega), Mod.of_below hB2⟩
          have h := HG2.out
          rw [splice_all (by simp [intsV])] at h
          exact h
        · rcases Nat.eq_zero_or_pos zs.length with h0 | h0
          · simp [intsV] at h
            omega
          · obtain ⟨g', off', hA, _⟩ := hv1.row h0
            exact ⟨_, hA, fun j u hu => HN.out j u hu _ _ hA⟩
      · have hn1 : 0 < zs.length := by
          rcases Nat.eq_zero_or_pos zs.length with h | h
          · exfalso
            have e : sumZ zs = 0 := by unfold sumZ; rw [h]; rfl
            rw [HSUM.out] at e
            omega
          · exact h
        have hlb := left_bounds zs many (sum := sum) HSUM.out (by omega)
        have hs2' : sum ≤ 40000 := by omega
        obtain ⟨g, off, rfl, hrow⟩ := hv1.row hn1
        have hgw : g < b := by
          obtain ⟨g', off', hA, hrow'⟩ := hv.row hn1
          injection hA with hA
          injection hA with hg
          have := hrow'.lt
          omega
        go_wp2_with fail
        rw [← qRow_zero (quoA zs many sum)] at B0 m1 hv1 hrow d2 d3 d5 ⊢
        have hszW : (wr.alloc (.cells (intsV (qRow (quoA zs many sum) zs.length 0)).toArray 3)).heap.size ≤ wr.heap.size + 1 := by simp
        generalize (wr.alloc (.cells (intsV (qRow (quoA zs many sum) zs.length 0)).toArray 3)) = W2 at *
        generalize hdb : wr.heap.size = gO at *
        have hleO := Nat.le_of_eq hdb
        clear hdb c2 c3 c5 hmk
        go_loopg [9, 10, 38] zs.length (fun gk l o i wr => QuoRel W2 zs many sum gO gk l o i wr)
        case atStart => exact ⟨0, none, 0, by omega, by omega, rfl, by simp [sumTo], rfl, ⟨by simp [natsV], .inl ⟨rfl, rfl⟩⟩, B0, Mod.refl _ _⟩
        case round =>
          obtain ⟨k, A, cap, rfl, hk, rfl, rfl, rfl, hown, hbk, h2⟩ := hrel
          by_cases hlt : k < zs.length
          · have hq := (hrow.mod h2 (by omega)).cell (intsV_get zs k hlt)
            have hzk := HZ.out _ (List.getElem_mem hlt)
            have qb := quoA_bounds zs HZ.out hm (show 0 < sum by omega) hlt
            have qs := quoSum_bounds zs HZ.out hm (show 0 < sum by omega) (show k ≤ zs.length by omega)
            have e2 := h2.keep d2 (by show ¬ b = gO; omega)
            have e3 := h2.keep d3 (by show ¬ b + 1 = gO; omega)
            have e5 := h2.keep d5 (by show ¬ b + 1 + 1 = gO; omega)
            have qc := (hbk.cell k).trans (qRow_get _ _ _ hlt)
            have qf := hbk.frozen k
            have hzE : zs.getD k 0 = zs[k] := by simp [List.getD, hlt]
            have HQ : Hid (many * zs[k] / sum = quoA zs many sum k) := by
              show many * zs[k] / sum = quoA zs many sum k
              unfold quoA
              rw [hzE]
            have HT : Hid (sumTo (quoA zs many sum) (k + 1) = sumTo (quoA zs many sum) k + quoA zs many sum k) := rfl
            clear hzE
            generalize zs[k] = y at *
            have a1 : 0 ≤ many * y := Int.mul_nonneg hm.1 hzk.1
            have a2 : many * y ≤ 2000 * 2000 := Int.mul_le_mul hm.2 hzk.2 hzk.1 (by omega)
            have a3 : 0 ≤ many * y / sum := by rw [HQ.out]; exact qb.1
            have a4 : many * y / sum ≤ 4000000 := by rw [HQ.out]; exact qb.2
            have m2 : Mod (fun j => j = gO) W2 (wr.setCell ⟨gO, k, none⟩ (.int .i64 (many * y / sum))) := Mod.setCell (S := fun j => j = gO) (p := ⟨gO, k, none⟩) h2 (.inl rfl) _
            have m3 : Mod (fun j => j = gO) wr (wr.setCell ⟨gO, k, none⟩ (.int .i64 (many * y / sum))) := Mod.setCell (S := fun j => j = gO) (p := ⟨gO, k, none⟩) (Mod.refl _ _) (.inl rfl) _
            have hown2 := own_mod hown m3 (fun g hg => by have := own_block hown g hg; omega)
            have hset : Blk (wr.setCell ⟨gO, k, none⟩ (.int .i64 (many * y / sum))) gO 3 (intsV (qRow (quoA zs many sum) zs.length (k + 1))).toArray := by
              have h := hbk.set k (.int .i64 (quoA zs many sum k))
              rw [qRow_set _ _ _ hlt] at h
              rw [HQ.out]
              exact h
            have HSET := Lib.hid hset
            have hgO := B0.lt
            clear hset hown
            generalize sumTo (quoA zs many sum) k = q0 at *
            go_upto_region 18 with (fail)
            generalize (wr.setCell ⟨gO, k, none⟩ (.int .i64 (many * y / sum))) = w1 at *
            go_wp2_with (at_builtin; refine wpList_append_lies _ rfl _ _ _ rfl (gO + 1) 3 i0 _ 1 8 Tryz.underlying22 hi0 hz0 hz1 hz2 rfl (by omega) (.slice A k cap) k (natsV (List.range k)) rfl (hown2.alloc _) ⟨w1.heap.size, 0, none⟩ 1 1 [.int .i64 (k : Int)] rfl rfl (World.news_of_block (cs := #[.int .i64 (k : Int)]) (t := 3) (fr := (0, 0)) (heap_alloc_new w1 _)) (by simp [Value.oneCell']) (by omega) (by simp [maxLen]; omega) (by omega) (by have := m2.size; simp; omega) (w1.heap.size + 1) (by simp) ?_; intro g5 cap5 w5 hown5 hgrow hat hlt5)
            go_roundg (zs.length - (k + 1))
            case measure => omega
            case rel =>
              refine ⟨k + 1, some ⟨g5, 0, none⟩, cap5, rfl, hlt, by simp, ?_, rfl, ?_, ?_, ?_⟩
              · rw [HT.out, ← HQ.out]
                congr 1
                omega
              · have e : natsV (List.range (k + 1)) = natsV (List.range k) ++ [.int .i64 (k : Int)] := by simp [natsV, List.range_succ]
                rw [e]
                exact hown5
              · exact (HSET.out.alloc _).grown hgrow (fun h => by have := own_block hown2 gO h.symm; omega)
              · exact (m2.alloc _).grown hgrow (fun k hk => .inr (by have := own_block hown2 k hk; omega))
          · have hke : k = zs.length := by omega
            subst hke
            clear hlt hk
            obtain ⟨go, cap', hform, hgo1, hgo2, hco, _⟩ := own_form hown hn1
            injection hform with hA _ hC
            subst hA hC
            rw [qRow_full] at hbk
            change Blk wr gO 3 (intsV (quos zs many sum)).toArray at hbk
            have HL : Hid (leftZ zs many sum = (many - sumTo (quoA zs many sum) zs.length).toNat) := rfl
            obtain ⟨l, hll⟩ := Int.eq_ofNat_of_zero_le hlb.1
            rw [hll] at hlb HL ⊢
            rw [Int.toNat_natCast] at HL
            have hl2 : l < zs.length := by omega
            clear hll hlb
            have e2 := h2.keep d2 (by show ¬ b = gO; omega)
            have e3 := h2.keep d3 (by show ¬ b + 1 = gO; omega)
            have e5 := h2.keep d5 (by show ¬ b + 1 + 1 = gO; omega)
            have hv2 : Sl wr 3 1 (.slice (some ⟨g, off, none⟩) zs.length c) (intsV zs) := ⟨_, _, _, rfl, hnc, hcc, by simp [intsV], fun _ => ⟨g, off, rfl, hrow.mod h2 (by omega)⟩⟩
            have hF : ∀ (x y : Nat) (W : World), x < zs.length → y < zs.length → Mod (fun j => j = go) wr W → Calls Tryz.prog 72 #[.int .i64 (x : Int), .int .i64 (y : Int), .pointer (some ⟨b + 1, 0, none⟩), .pointer (some ⟨b, 0, none⟩), .pointer (some ⟨b + 1 + 1, 0, none⟩)] W (IntPost W (remA zs many sum y - remA zs many sum x)) := by
              intro x y W hx hy hM
              exact cmp_calls W zs many sum _ c _ _ _ x y hx hy hm (by omega) HZ.out (hM.keep e3 (by show ¬ b + 1 = go; omega)) (hM.keep e2 (by show ¬ b = go; omega)) (hM.keep e5 (by show ¬ b + 1 + 1 = go; omega))
                ⟨_, _, _, rfl, hnc, hcc, by simp [intsV], fun _ => ⟨g, off, rfl, (hrow.mod h2 (by omega)).mod hM (by omega)⟩⟩
            have HF := Lib.hid hF
            clear hF
            have hfb : ∀ i, i < zs.length → 0 ≤ remA zs many sum i ∧ remA zs many sum i ≤ 1000000000 := by
              intro i hi
              unfold remA
              have b1 := Int.emod_nonneg (many * zs.getD i 0) (show sum ≠ 0 by omega)
              have b2 := Int.emod_lt_of_pos (many * zs.getD i 0) (show 0 < sum by omega)
              omega
            have HFB := Lib.hid hfb
            clear hfb
            go_wp2_with fail
            refine (stable_calls wr (gO + 1) go cap zs.length 72 _ _ _ (remA zs many sum) (by omega) hl HFB.out hown (fun _ _ _ => rfl) HF.out).mono ?_
            rintro e w3 ⟨s, hord, rfl, hown3, h3⟩
            have hsl := hord.len
            have HSL := Lib.hid hsl
            clear hsl HF e2 e3 e5 hown
            have hbk3 := hbk.mod h3 (by omega)
            have l1 : (l : Int) ≤ (cap : Int) := by omega
            have l2 : l ≤ cap := by omega
            have l3 : (0 : Int) ≤ (l : Int) := by omega
            go_wp2_with fail
            go_loopg [69] l (fun gk i wr => IncRel w3 zs many sum s gO l gk i wr)
            case atStart => exact ⟨0, by omega, by omega, rfl, hbk3, Mod.refl _ _⟩
            case round =>
              clear hbk3
              obtain ⟨k, rfl, hk, rfl, hb4, h4⟩ := hrel
              by_cases hlt : k < l
              · have hks : k < s.length := by rw [HSL.out]; omega
                have hq := (hown3.cellAt k (by omega)).trans (natsV_get s k hks)
                have hq := h4.keep hq (by show ¬ go = gO; omega)
                have hsk : s[k] < zs.length := hord.lt (List.getElem_mem _)
                have HT : Hid (s.take (k + 1) = s.take k ++ [s[k]]) := List.take_succ_eq_append_getElem hks
                have hil : (incs (quos zs many sum) (s.take k)).length = zs.length := by rw [incs_len]; simp [quos]
                have hmem : (incs (quos zs many sum) (s.take k)).getD s[k] 0 ∈ incs (quos zs many sum) (s.take k) := by
                  simp only [List.getD]
                  rw [List.getElem?_eq_getElem (by omega)]
                  exact List.getElem_mem _
                have hbd := incs_mem (s.take k) (quos zs many sum) 4000000 (fun x hx => by
                  simp only [quos, List.mem_map, List.mem_range] at hx
                  obtain ⟨i, hi, rfl⟩ := hx
                  exact quoA_bounds zs HZ.out hm (by omega) hi) (fun p hp => by
                  rw [show (quos zs many sum).length = zs.length by simp [quos]]
                  exact hord.lt (List.mem_of_mem_take hp)) _ hmem
                have htl : (s.take k).length ≤ 20 := by rw [List.length_take]; omega
                have hq2 : (intsV (incs (quos zs many sum) (s.take k))).toArray[s[k]]? = some (.int .i64 ((incs (quos zs many sum) (s.take k)).getD s[k] 0)) := by
                  rw [List.getElem?_toArray, intsV_get _ _ (by omega)]
                  simp only [List.getD]
                  rw [List.getElem?_eq_getElem (by omega)]
                  rfl
                have qc := (hb4.cell s[k]).trans hq2
                have qf := hb4.frozen s[k]
                have HS : Hid (Blk (wr.setCell ⟨gO, s[k], none⟩ (.int .i64 ((incs (quos zs many sum) (s.take k)).getD s[k] 0 + 1))) gO 3 (intsV (incs (quos zs many sum) (s.take k ++ [s[k]]))).toArray) := by
                  have h := hb4.set s[k] (.int .i64 ((incs (quos zs many sum) (s.take k)).getD s[k] 0 + 1))
                  show Blk _ _ _ _
                  rw [incs_snoc]
                  have e : (intsV (incs (quos zs many sum) (s.take k))).toArray.setIfInBounds s[k] (.int .i64 ((incs (quos zs many sum) (s.take k)).getD s[k] 0 + 1)) = (intsV ((incs (quos zs many sum) (s.take k)).set s[k] ((incs (quos zs many sum) (s.take k)).getD s[k] 0 + 1))).toArray := by
                    apply Array.ext'
                    simp [intsV, List.map_set]
                  rw [e] at h
                  exact h
                clear hq2 hmem hil
                generalize s[k] = p at *
                generalize (incs (quos zs many sum) (s.take k)).getD p 0 = x at *
                have x1 : (0 : Int) ≤ x := hbd.1
                have x2 : x ≤ 5000000 := by omega
                go_wp2_with fail
                go_roundg (l - (k + 1))
                case measure => omega
                case rel =>
                  refine ⟨k + 1, rfl, hlt, by simp, ?_, Mod.setCell (S := fun j => j = gO) (p := ⟨gO, p, none⟩) h4 (.inl rfl) _⟩
                  rw [HT.out]
                  exact HS.out
              · have hke : k = l := by omega
                subst hke
                go_wp2_with fail
                go_ret
                refine ⟨_, _, zs.length, .inr ⟨by rw [HSUM.out]; omega, s, by rw [HSUM.out]; exact hord, rfl⟩, rfl, own_of_blk (t := 3) ?_ (by omega) ?_ (by omega), ?_⟩
                · rw [HSUM.out, HL.out]
                  exact hb4
                · simp [intsV, incs_len, quos]
                · exact ((m1.trans' h2 (fun i hi hlt => by omega)).trans' h3 (fun i hi hlt => by omega)).trans' h4 (fun i hi hlt => by omega)

end Go.Proofs.YtkchninlhemioaaGreatDoor

/- AllocateOf of the reference: it gives what the program gives. -/
namespace Go.Proofs.YtkchninlhemioaaGreatDoor
set_option linter.unusedVariables false
set_option linter.unusedSimpArgs false
open Go.RowKit
attribute [local go_sem ↓] Go.wp_at_zero Go.wp_at_succ

def SumRel2 (W : World) (zs : List Int) (gk : Nat) (s i : Value) (wr : World) : Prop :=
  ∃ k : Nat, zs.length - k = gk ∧ k ≤ zs.length ∧ i = .int .i64 (k : Int) ∧ s = .int .i64 (sumTo (zAt zs) k) ∧ wr = W
def QuoRel2 (W : World) (zs : List Int) (many sum : Int) (g gk : Nat) (l i : Value) (wr : World) : Prop :=
  ∃ k : Nat, zs.length - k = gk ∧ k ≤ zs.length ∧ i = .int .i64 (k : Int) ∧ l = .int .i64 (many - sumTo (quoA zs many sum) k) ∧
    Blk wr g 3 (intsV (qRow (quoA zs many sum) zs.length k)).toArray ∧ Blk wr (g + 1) 3 (intsV (qRow (remA zs many sum) zs.length k)).toArray ∧ Mod (fun j => j = g ∨ j = g + 1) W wr
def PickRel (W : World) (zs : List Int) (many sum : Int) (s : List Nat) (g l gk : Nat) (i : Value) (wr : World) : Prop :=
  ∃ k : Nat, l - k = gk ∧ k ≤ l ∧ i = .int .i64 (k : Int) ∧ Blk wr g 3 (intsV (incs (quos zs many sum) (s.take k))).toArray ∧
    Blk wr (g + 1) 3 (intsV (marks ((List.range zs.length).map (remA zs many sum)) (s.take k))).toArray ∧ Mod (fun j => j = g ∨ j = g + 1) W wr
theorem Blk.sl {w : World} {g n : Nat} {t : TypeId} {xs : List Value} (h : Blk w g t xs.toArray) (hn : xs.length = n) (hl : n ≤ 9223372036854775807) : Sl w t 1 (.slice (some ⟨g, 0, none⟩) n n) xs :=
  ⟨_, _, _, rfl, Nat.le_refl _, hl, by omega, fun _ => ⟨g, 0, rfl, h.row0⟩⟩
theorem intsV_set (l : List Int) (p : Nat) (x : Int) : (intsV l).toArray.setIfInBounds p (.int .i64 x) = (intsV (l.set p x)).toArray := by
  apply Array.ext'
  simp [intsV, List.map_set]

set_option maxRecDepth 100000 in
set_option maxHeartbeats 8000000 in
theorem AllocateOf_calls (w : World) (v : Value) (n0 base : Nat) (zs out : List Int) (many : Int) (hown : w.ownsRow base 3 1 v n0 (intsV zs)) (hl : zs.length < 20) (hz : ∀ z ∈ zs, 0 ≤ z ∧ z ≤ 2000) (hm : 0 ≤ many ∧ many ≤ 2000)
    (hsp : AllocSpec zs many out) : Calls Tryz.prog 53 #[v, .int .i64 many] w (OwnPost w 3 (intsV out)) := by
  have hv := Sl.of_own hown
  obtain ⟨A, n, c, rfl⟩ := hv.form
  obtain ⟨hn, hnc, hcc⟩ := hv.len
  rw [show (intsV zs).length = zs.length from by simp [intsV]] at hn
  subst hn
  have HZ := Lib.hid hz
  have HSP := Lib.hid hsp
  have HOWN := Lib.hid hown
  clear hz hsp hown
  have hmk := run_make_one (P := Tryz.prog) 22 3 (.int .i64 0) 8 Tryz.underlying22 info_int_ rfl .i64 .i64 zs.length (zs.length : Int) rfl (by omega) (by omega) (intsV (List.replicate zs.length 0)).toArray (by rw [intsV_zeros])
  go_enter Tryz.func53, Tryz.ntmps53
  go_wp2_with fail
  clear hmk
  have B0 := (Blk.new w 3 (intsV (List.replicate zs.length 0)).toArray).alloc (.cells (intsV (List.replicate zs.length 0)).toArray 3)
  have B1 := Blk.snd w (.cells (intsV (List.replicate zs.length 0)).toArray 3) 3 (intsV (List.replicate zs.length 0)).toArray
  have m0 : Pure w ((w.alloc (.cells (intsV (List.replicate zs.length 0)).toArray 3)).alloc (.cells (intsV (List.replicate zs.length 0)).toArray 3)) := ((Mod.refl _ _).alloc _).alloc _
  have hv0 := hv.pure m0
  have hown0 := own_pure HOWN.out m0
  have HOWN0 := Lib.hid hown0
  clear hown0
  generalize ((w.alloc (.cells (intsV (List.replicate zs.length 0)).toArray 3)).alloc (.cells (intsV (List.replicate zs.length 0)).toArray 3)) = W at *
  generalize hdb : w.heap.size = b at *
  have hle := Nat.le_of_eq hdb
  have hge := Nat.le_of_eq hdb.symm
  have HDB := Lib.hid hdb
  have hbW := B1.lt
  clear hdb
  go_loopg [7, 22] zs.length (fun gk s i wr => SumRel2 W zs gk s i wr)
  case atStart => exact ⟨0, by omega, by omega, rfl, rfl, rfl⟩
  case round =>
    obtain ⟨k, rfl, hk, rfl, rfl, rfl⟩ := hrel
    have hs1 := sumTo_nonneg (f := zAt zs) k (fun i hi => (HZ.out _ (zAt_mem zs (by omega))).1)
    have hs2 := sumTo_le (f := zAt zs) (M := 2000) k (fun i hi => (HZ.out _ (zAt_mem zs (by omega))).2)
    by_cases hlt : k < zs.length
    · obtain ⟨g, off, rfl, hrow⟩ := hv0.row (by omega)
      have hq := hrow.cell (intsV_get zs k hlt)
      have hzk := HZ.out _ (List.getElem_mem hlt)
      have HT : Hid (sumTo (zAt zs) (k + 1) = sumTo (zAt zs) k + zs[k]) := by
        show sumTo (zAt zs) (k + 1) = _
        simp only [sumTo]
        rw [zAt_lt zs hlt]
      clear hrow
      generalize zs[k] = y at *
      generalize sumTo (zAt zs) k = t0 at *
      go_wp2_with fail
      go_roundg (zs.length - (k + 1))
      case measure => omega
      case rel => exact ⟨k + 1, rfl, hlt, by simp, by rw [HT.out], rfl⟩
    · have hke : k = zs.length := by omega
      subst hke
      generalize hsum : sumTo (zAt zs) zs.length = sum at *
      have HSUM : Hid (sumZ zs = sum) := hsum
      clear hsum hlt hk
      by_cases hms : sum < many
      · have HC := Lib.hid (clone_calls wr (.slice A zs.length c) n0 base zs HOWN0.out (by omega))
        go_wp2_with fail
        refine HC.out.mono ?_
        rintro e w2 ⟨v2, n2, rfl, hown2, hm2⟩
        go_wp2_with fail
        go_ret
        have e : out = zs := by
          rcases HSP.out with ⟨_, h⟩ | ⟨h, _⟩
          · exact h
          · rw [HSUM.out] at h; omega
        subst e
        exact ⟨_, _, rfl, own_base hown2 (by have := m0.size; omega), m0.trans hm2⟩
      · by_cases hs0 : sum = 0
        · have hm0' : many = 0 := by omega
          have HO : Hid (out = List.replicate zs.length 0) := by
            show out = _
            rcases HSP.out with ⟨_, h⟩ | ⟨h, _⟩
            · rw [h]
              exact zs_zero zs (fun z hz => (HZ.out z hz).1) (HSUM.out.trans hs0)
            · rw [HSUM.out] at h; omega
          subst hs0
          go_wp2_with fail
          go_ret
          refine ⟨_, zs.length, rfl, own_of_blk ?_ (by omega) (by rw [HO.out]; simp [intsV]) (by omega), m0⟩
          rw [HO.out]
          exact B0
        · have hsne : (sum == 0) = false := by simpa using hs0
          obtain ⟨s, hord, hout⟩ := HSP.out.steps (by rw [HSUM.out]; omega) (by rw [HSUM.out]; omega)
          rw [HSUM.out] at hord hout
          have HORD := Lib.hid hord
          have HOUT := Lib.hid hout
          have hn1 : 0 < zs.length := by
            rcases Nat.eq_zero_or_pos zs.length with h | h
            · exfalso
              have e : sumZ zs = 0 := by unfold sumZ; rw [h]; rfl
              rw [HSUM.out] at e
              omega
            · exact h
          have hlb := left_bounds zs many (sum := sum) HSUM.out (by omega)
          have hs2' : sum ≤ 40000 := by omega
          obtain ⟨g, off, rfl, hrow⟩ := hv0.row hn1
          have hgw : g < b := by
            obtain ⟨g', off', hA, hrow'⟩ := hv.row hn1
            injection hA with hA
            injection hA with hg
            have := hrow'.lt
            omega
          rw [← qRow_zero (quoA zs many sum)] at B0
          rw [← qRow_zero (remA zs many sum)] at B1
          have hspos : 0 < sum := by omega
          clear hord hout hs0
          obtain ⟨W2, hW2⟩ : ∃ W2 : World, W2 = wr := ⟨_, rfl⟩
          subst hW2
          go_wp2_with fail
          go_loopg [8, 41] zs.length (fun gk l i wr => QuoRel2 W2 zs many sum b gk l i wr)
          case atStart => exact ⟨0, by omega, by omega, rfl, by simp [sumTo], B0, B1, Mod.refl _ _⟩
          case round =>
            obtain ⟨k, rfl, hk, rfl, rfl, hb0, hb1, h2⟩ := hrel
            by_cases hlt : k < zs.length
            · have hq := (hrow.mod h2 (by omega)).cell (intsV_get zs k hlt)
              have hzk := HZ.out _ (List.getElem_mem hlt)
              have qb := quoA_bounds zs HZ.out hm (show 0 < sum by omega) hlt
              have qs := quoSum_bounds zs HZ.out hm (show 0 < sum by omega) (show k ≤ zs.length by omega)
              have qc := (hb0.cell k).trans (qRow_get _ _ _ hlt)
              have qf := hb0.frozen k
              have rc := (hb1.cell k).trans (qRow_get _ _ _ hlt)
              have rf := hb1.frozen k
              have hzE : zs.getD k 0 = zs[k] := by simp [List.getD, hlt]
              have HQ : Hid (many * zs[k] / sum = quoA zs many sum k) := by
                show many * zs[k] / sum = quoA zs many sum k
                unfold quoA
                rw [hzE]
              have HR : Hid (many * zs[k] % sum = remA zs many sum k) := by
                show many * zs[k] % sum = remA zs many sum k
                unfold remA
                rw [hzE]
              have HT : Hid (sumTo (quoA zs many sum) (k + 1) = sumTo (quoA zs many sum) k + quoA zs many sum k) := rfl
              clear hzE
              generalize zs[k] = y at *
              have a1 : 0 ≤ many * y := Int.mul_nonneg hm.1 hzk.1
              have a2 : many * y ≤ 2000 * 2000 := Int.mul_le_mul hm.2 hzk.2 hzk.1 (by omega)
              have a3 : 0 ≤ many * y / sum := by rw [HQ.out]; exact qb.1
              have a4 : many * y / sum ≤ 4000000 := by rw [HQ.out]; exact qb.2
              have b1 := Int.emod_nonneg (many * y) (show sum ≠ 0 by omega)
              have b2 := Int.emod_lt_of_pos (many * y) (show 0 < sum by omega)
              have e1 : IntKind.i64.wrap (many * y) = many * y := IntWalk.i64_in _ (by omega)
              have t1 : (many * y).tmod sum = many * y % sum := Int.tmod_eq_emod_of_nonneg a1
              have t2 : (many * y).tdiv sum = many * y / sum := Int.tdiv_eq_ediv_of_nonneg a1
              have e2 : IntKind.i64.wrap (many * y % sum) = many * y % sum := IntWalk.i64_in _ (by omega)
              have e3 : IntKind.i64.wrap (many * y / sum) = many * y / sum := IntWalk.i64_in _ (by omega)
              have k1 : (0 : Int) ≤ (k : Int) := by omega
              have k2 : (k : Int) < (zs.length : Int) := by omega
              generalize sumTo (quoA zs many sum) k = q0 at *
              have E0 : (intsV (qRow (quoA zs many sum) zs.length k)).toArray.setIfInBounds k (.int .i64 (many * y / sum)) = (intsV (qRow (quoA zs many sum) zs.length (k + 1))).toArray := by rw [HQ.out]; exact qRow_set _ _ _ hlt
              have E1 : (intsV (qRow (remA zs many sum) zs.length k)).toArray.setIfInBounds k (.int .i64 (many * y % sum)) = (intsV (qRow (remA zs many sum) zs.length (k + 1))).toArray := by rw [HR.out]; exact qRow_set _ _ _ hlt
              have HE0 := Lib.hid E0
              have HE1 := Lib.hid E1
              clear E0 E1
              go_upto_region 17 with (fail)
              go_cut [] (fun wx => Blk wx b 3 (intsV (qRow (quoA zs many sum) zs.length (k + 1))).toArray ∧ Blk wx (b + 1) 3 (intsV (qRow (remA zs many sum) zs.length (k + 1))).toArray ∧ Mod (fun j => j = b ∨ j = b + 1) W2 wx)
              case first =>
                go_region_with (fail)
                all_goals
                  go_wp2_with fail
                  go_meet
                  rw [← HE0.out, ← HE1.out]
                  refine ⟨Blk.drew ?_, Blk.drew ?_, Mod.drew ?_⟩
                  · first
                    | exact (hb0.set k _).far (by show b ≠ b + 1; omega) _
                    | exact (hb0.far (by show b ≠ b + 1; omega) _).set k _
                  · first
                    | exact (hb1.set k _).far (by show b + 1 ≠ b; omega) _
                    | exact (hb1.far (by show b + 1 ≠ b; omega) _).set k _
                  · first
                    | exact (h2.setCell (p := ⟨b, k, none⟩) (.inl (.inl rfl)) _).setCell (p := ⟨b + 1, k, none⟩) (.inl (.inr rfl)) _
                    | exact (h2.setCell (p := ⟨b + 1, k, none⟩) (.inl (.inr rfl)) _).setCell (p := ⟨b, k, none⟩) (.inl (.inl rfl)) _
              case rest =>
                obtain ⟨hb2, hb3, h3⟩ := hcut
                clear qc qf rc rf hq hb0 hb1 h2
                have qc := (hb2.cell k).trans (qRow_got _ _ _ hlt)
                have qb1 := qb.1
                have qb2 := qb.2
                generalize wc = w3 at *
                generalize quoA zs many sum k = q1 at *
                clear e1 t1 t2 e2 e3 b1 b2 a1 a2 a3 a4 HQ HR
                go_wp2_with fail
                go_roundg (zs.length - (k + 1))
                case measure => omega
                case rel =>
                  refine ⟨k + 1, rfl, hlt, by simp, ?_, hb2, hb3, h3⟩
                  rw [HT.out]
                  congr 1
                  omega
            · have hke : k = zs.length := by omega
              subst hke
              clear hlt hk
              rw [qRow_full] at hb0 hb1
              change Blk wr b 3 (intsV (quos zs many sum)).toArray at hb0
              have HL : Hid (leftZ zs many sum = (many - sumTo (quoA zs many sum) zs.length).toNat) := rfl
              obtain ⟨l, hll⟩ := Int.eq_ofNat_of_zero_le hlb.1
              rw [hll] at hlb HL ⊢
              rw [Int.toNat_natCast] at HL
              have hl2 : l < zs.length := by omega
              clear hll hlb
              obtain ⟨W3, hW3⟩ : ∃ W3 : World, W3 = wr := ⟨_, rfl⟩
              subst hW3
              go_wp2_with fail
              go_loopg [70] l (fun gk i wr => PickRel W3 zs many sum s b l gk i wr)
              case atStart => exact ⟨0, by omega, by omega, rfl, hb0, hb1, Mod.refl _ _⟩
              case round =>
                clear hb0 hb1
                obtain ⟨k, rfl, hk, rfl, hb4, hb5, h4⟩ := hrel
                by_cases hlt : k < l
                · have hord := HORD.out (by rw [HL.out]; omega)
                  obtain ⟨p, hp, hpn, hmax, hidx⟩ := pick_next hord (fun i hi => Int.emod_nonneg _ (by omega)) (show k < zs.length by omega)
                  have hmk : (marks ((List.range zs.length).map (remA zs many sum)) (s.take k)).length = zs.length := by rw [marks_len]; simp
                  have hsl : Sl wr 3 1 (.slice (some ⟨b + 1, 0, none⟩) zs.length zs.length) (intsV (marks ((List.range zs.length).map (remA zs many sum)) (s.take k))) := hb5.sl (by simp [intsV, hmk]) (by omega)
                  have hks : k < s.length := by rw [hord.len]; omega
                  have hpe : s[k] = p := by
                    rw [List.getElem?_eq_getElem hks] at hp
                    injection hp
                  have HT : Hid (s.take (k + 1) = s.take k ++ [p]) := by
                    show s.take (k + 1) = _
                    rw [List.take_succ_eq_append_getElem hks, hpe]
                  have hil : (incs (quos zs many sum) (s.take k)).length = zs.length := by rw [incs_len]; simp [quos]
                  have hmem : (incs (quos zs many sum) (s.take k)).getD p 0 ∈ incs (quos zs many sum) (s.take k) := by
                    simp only [List.getD]
                    rw [List.getElem?_eq_getElem (by omega)]
                    exact List.getElem_mem _
                  have hbd := incs_mem (s.take k) (quos zs many sum) 4000000 (fun x hx => by
                    simp only [quos, List.mem_map, List.mem_range] at hx
                    obtain ⟨i, hi, rfl⟩ := hx
                    exact quoA_bounds zs HZ.out hm (by omega) hi) (fun p hp => by
                    rw [show (quos zs many sum).length = zs.length by simp [quos]]
                    exact hord.lt (List.mem_of_mem_take hp)) _ hmem
                  have htl : (s.take k).length ≤ 20 := by rw [List.length_take]; omega
                  have HMX := Lib.hid (maxI_calls wr (.slice (some ⟨b + 1, 0, none⟩) zs.length zs.length) _ hsl (by rw [hmk]; omega))
                  have HMAX := Lib.hid hmax
                  have HIDX := Lib.hid hidx
                  have HSLI := Lib.hid hsl
                  have hq2 : (intsV (incs (quos zs many sum) (s.take k))).toArray[p]? = some (.int .i64 ((incs (quos zs many sum) (s.take k)).getD p 0)) := by
                    rw [List.getElem?_toArray, intsV_get _ _ (by omega)]
                    simp only [List.getD]
                    rw [List.getElem?_eq_getElem (by omega)]
                    rfl
                  have hq3 : ∃ u : Int, (intsV (marks ((List.range zs.length).map (remA zs many sum)) (s.take k))).toArray[p]? = some (.int .i64 u) := by
                    rw [List.getElem?_toArray, intsV_get _ _ (by omega)]
                    exact ⟨_, rfl⟩
                  obtain ⟨u, hq3⟩ := hq3
                  clear hp hmax hidx hsl hpe hord hmem hil hks
                  have x1 : (0 : Int) ≤ (incs (quos zs many sum) (s.take k)).getD p 0 := hbd.1
                  have x2 : (incs (quos zs many sum) (s.take k)).getD p 0 ≤ 5000000 := by omega
                  go_wp2_with fail
                  refine HMX.out.mono ?_
                  rintro e w5 ⟨x, hx, rfl, hm5⟩
                  obtain rfl := hx.unique HMAX.out
                  have HI := Lib.hid (indexI_calls w5 (.slice (some ⟨b + 1, 0, none⟩) zs.length zs.length) _ (remA zs many sum p) (HSLI.out.pure hm5))
                  go_wp2_with fail
                  refine HI.out.mono ?_
                  rintro e w6 ⟨rfl, hm6⟩
                  rw [HIDX.out]
                  have hb6 := (hb4.modp hm5).modp hm6
                  have hb7 := (hb5.modp hm5).modp hm6
                  have h6 : Mod (fun j => j = b ∨ j = b + 1) W3 w6 := (h4.transp hm5).transp hm6
                  have qc := (hb6.cell p).trans hq2
                  have qf := hb6.frozen p
                  have S0 := hb6.set p (.int .i64 ((incs (quos zs many sum) (s.take k)).getD p 0 + 1))
                  rw [intsV_set, ← incs_snoc] at S0
                  have S1 := hb7.far (p := ⟨b, p, none⟩) (by show b + 1 ≠ b; omega) (.int .i64 ((incs (quos zs many sum) (s.take k)).getD p 0 + 1))
                  have S2 := S1.set p (.int .i64 (-1))
                  rw [intsV_set, ← marks_snoc] at S2
                  have S3 := S0.far (p := ⟨b + 1, p, none⟩) (by show b ≠ b + 1; omega) (.int .i64 (-1))
                  have qm := (S1.cell p).trans hq3
                  have qn := S1.frozen p
                  have h7 := (h6.setCell (p := ⟨b, p, none⟩) (.inl (.inl rfl)) (.int .i64 ((incs (quos zs many sum) (s.take k)).getD p 0 + 1))).setCell (p := ⟨b + 1, p, none⟩) (.inl (.inr rfl)) (.int .i64 (-1))
                  have HS2 := Lib.hid S2
                  have HS3 := Lib.hid S3
                  have p1 : (0 : Int) ≤ (p : Int) := by omega
                  have p2 : (p : Int) < (zs.length : Int) := by omega
                  clear hq2 hq3 S0 S1 S2 S3 HMX HI HMAX HIDX HSLI hmk
                  generalize (incs (quos zs many sum) (s.take k)).getD p 0 = x at *
                  go_wp2_with fail
                  go_roundg (l - (k + 1))
                  case measure => omega
                  case rel =>
                    refine ⟨k + 1, rfl, hlt, by simp, ?_, ?_, h7⟩
                    · rw [HT.out]
                      exact HS3.out
                    · rw [HT.out]
                      exact HS2.out
                · have hke : k = l := by omega
                  subst hke
                  go_wp2_with fail
                  go_ret
                  refine ⟨_, zs.length, rfl, own_of_blk (t := 3) ?_ (by omega) ?_ (by omega), ?_⟩
                  · rw [HOUT.out, HL.out]
                    exact hb4
                  · rw [HOUT.out]
                    simp [intsV, incs_len, quos]
                  · exact (m0.trans' h2 (fun i hi hlt => by omega)).trans' h4 (fun i hi hlt => by omega)

end Go.Proofs.YtkchninlhemioaaGreatDoor
