/- allocate of package sample. -/
import Derived.Test.YtpacmdiodnnofaaAllocD
namespace Go.Proofs.Ytpacmdiodnnofaa
set_option linter.unusedVariables false
set_option linter.unusedSimpArgs false
open Go.RowKit
attribute [local go_sem ↓] Go.wp_at_zero Go.wp_at_succ

theorem own_base {w : World} {base base' n size : Nat} {e : TypeId} {v : Value} {xs : List Value} (h : w.ownsRow base e size v n xs) (hb : base' ≤ base) : w.ownsRow base' e size v n xs := by
  obtain ⟨h1, h2⟩ := h
  refine ⟨h1, ?_⟩
  rcases h2 with h2 | ⟨g, cap, cur, hv, hg, r⟩
  · exact .inl h2
  · exact .inr ⟨g, cap, cur, hv, by omega, r⟩
theorem own_form {w : World} {base n size : Nat} {e : TypeId} {v : Value} {xs : List Value} (h : w.ownsRow base e size v n xs) (hn : 0 < n) : ∃ g cap, v = .slice (some ⟨g, 0, none⟩) n cap ∧ base ≤ g ∧ g < w.heap.size ∧ n ≤ cap ∧ cap ≤ 9223372036854775807 := by
  rcases h.2 with ⟨rfl, h0⟩ | ⟨g, cap, cur, rfl, hg, hh, hc, hcm, _⟩
  · omega
  · exact ⟨g, cap, rfl, hg, lt_of_heap hh, hc, by simpa [maxLen] using hcm⟩
/-- The quotients of the first k, then zeros. -/
def qRow (f : Nat → Int) (n k : Nat) : List Int := (List.range n).map fun i => if i < k then f i else 0
theorem qRow_len (f : Nat → Int) (n k : Nat) : (qRow f n k).length = n := by simp [qRow]
theorem qRow_zero (f : Nat → Int) (n : Nat) : qRow f n 0 = List.replicate n 0 := by
  apply List.ext_getElem
  · simp [qRow]
  · intro i h1 h2
    simp [qRow]
theorem qRow_full (f : Nat → Int) (n : Nat) : qRow f n n = (List.range n).map f := by
  apply List.ext_getElem
  · simp [qRow]
  · intro i h1 h2
    simp [qRow] at h1 ⊢
    intro h
    omega
theorem qRow_get (f : Nat → Int) (n k : Nat) (h : k < n) : (intsV (qRow f n k)).toArray[k]? = some (.int .i64 0) := by simp [intsV, qRow, h]
theorem qRow_got (f : Nat → Int) (n k : Nat) (h : k < n) : (intsV (qRow f n (k + 1))).toArray[k]? = some (.int .i64 (f k)) := by simp [intsV, qRow, h]
theorem qRow_set (f : Nat → Int) (n k : Nat) (h : k < n) : (intsV (qRow f n k)).toArray.setIfInBounds k (.int .i64 (f k)) = (intsV (qRow f n (k + 1))).toArray := by
  apply Array.ext'
  rw [Array.toList_setIfInBounds]
  apply List.ext_getElem
  · simp [intsV, qRow]
  · intro i h1 h2
    simp [intsV, qRow] at h1 h2
    by_cases e : i = k
    · subst e
      simp [intsV, qRow]
    · rw [List.getElem_set_ne (by omega)]
      simp only [intsV, qRow, List.getElem_map, List.getElem_range]
      by_cases h3 : i < k
      · rw [if_pos h3, if_pos (by omega)]
      · rw [if_neg h3, if_neg (by omega)]
theorem incs_mem (ps : List Nat) : ∀ (l : List Int) (M : Int), (∀ x ∈ l, 0 ≤ x ∧ x ≤ M) → (∀ p ∈ ps, p < l.length) → ∀ x ∈ incs l ps, 0 ≤ x ∧ x ≤ M + ps.length := by
  induction ps with
  | nil => intro l M h _ x hx; simpa [incs] using h x hx
  | cons p ps ih =>
    intro l M h hp x hx
    have hpl := hp p (by simp)
    have hd : l.getD p 0 ∈ l := by
      simp only [List.getD]
      rw [List.getElem?_eq_getElem hpl]
      exact List.getElem_mem _
    have hm := h _ hd
    have := ih (l.set p (l.getD p 0 + 1)) (M + 1) (fun y hy => ?_) (fun q hq => by rw [List.length_set]; exact hp q (by simp [hq])) x (by simpa [incs] using hx)
    · simp only [List.length_cons]
      omega
    · rcases List.mem_or_eq_of_mem_set hy with h1 | h1
      · have := h y h1; omega
      · omega

theorem splice_all {L cs : List Value} (h : L.length = cs.length) : splice L 0 cs = cs := by
  unfold splice
  simp [h]
def AllocPost (w : World) (zs : List Int) (many : Int) (e : Ending) (w' : World) : Prop :=
  ∃ out v n, AllocSpec zs many out ∧ e = .returned v ∧ w'.ownsRow w.heap.size 3 1 v n (intsV out) ∧ Pure w w'
def SumRel (W : World) (zs : List Int) (g gk : Nat) (i : Value) (wr : World) : Prop :=
  ∃ k : Nat, zs.length - k = gk ∧ k ≤ zs.length ∧ i = .int .i64 (k : Int) ∧ Blk wr g 3 #[.int .i64 (sumTo (zAt zs) k)] ∧ Mod (fun j => j = g) W wr
def QuoRel (W : World) (zs : List Int) (many sum : Int) (g gk : Nat) (l o i : Value) (wr : World) : Prop :=
  ∃ (k : Nat) (A : Option Addr) (cap : Nat), zs.length - k = gk ∧ k ≤ zs.length ∧ i = .int .i64 (k : Int) ∧ l = .int .i64 (many - sumTo (quoA zs many sum) k) ∧ o = .slice A k cap ∧
    wr.ownsRow (g + 1) 3 1 (.slice A k cap) k (natsV (List.range k)) ∧ Blk wr g 3 (intsV (qRow (quoA zs many sum) zs.length k)).toArray ∧ Mod (fun j => j = g) W wr
def IncRel (W : World) (zs : List Int) (many sum : Int) (s : List Nat) (g l gk : Nat) (i : Value) (wr : World) : Prop :=
  ∃ k : Nat, l - k = gk ∧ k ≤ l ∧ i = .int .i64 (k : Int) ∧ Blk wr g 3 (intsV (incs (quos zs many sum) (s.take k))).toArray ∧ Mod (fun j => j = g) W wr

set_option maxRecDepth 100000 in
set_option maxHeartbeats 8000000 in
theorem allocate_calls (w : World) (v : Value) (zs : List Int) (many : Int) (hv : Sl w 3 1 v (intsV zs)) (hl : zs.length < 20) (hz : ∀ z ∈ zs, 0 ≤ z ∧ z ≤ 2000) (hm : 0 ≤ many ∧ many ≤ 2000) :
    Calls Try.prog 102 #[v, .int .i64 many] w (AllocPost w zs many) := by
  obtain ⟨i0, hi0, hz0, hz1, hz2⟩ := info_parts info_int_
  obtain ⟨A, n, c, rfl⟩ := hv.form
  obtain ⟨hn, hnc, hcc⟩ := hv.len
  rw [show (intsV zs).length = zs.length from by simp [intsV]] at hn
  subst hn
  have HZ := Lib.hid hz
  clear hz
  have hmk := run_make_one (P := Try.prog) 22 3 (.int .i64 0) 8 Try.underlying22 info_int_ rfl .i64 .i64 zs.length (zs.length : Int) rfl (by omega) (by omega) (intsV (List.replicate zs.length 0)).toArray (by rw [intsV_zeros])
  go_enter Try.func102, Try.ntmps102
  go_wp2_with fail
  have b2 := ((Blk.new w 22 #[.slice A zs.length c]).alloc (.cells #[.int .i64 many] 3)).alloc (.cells #[.int .i64 0] 3)
  have b3 := (Blk.snd w (.cells #[.slice A zs.length c] 22) 3 #[.int .i64 many]).alloc (.cells #[.int .i64 0] 3)
  have b5 := Blk.thd w (.cells #[.slice A zs.length c] 22) (.cells #[.int .i64 many] 3) 3 #[.int .i64 0]
  have m0 : Pure w (((w.alloc (.cells #[.slice A zs.length c] 22)).alloc (.cells #[.int .i64 many] 3)).alloc (.cells #[.int .i64 0] 3)) := (((Mod.refl _ _).alloc _).alloc _).alloc _
  have hv0 := hv.pure m0
  generalize (((w.alloc (.cells #[.slice A zs.length c] 22)).alloc (.cells #[.int .i64 many] 3)).alloc (.cells #[.int .i64 0] 3)) = W at *
  generalize hdb : w.heap.size = b at *
  have hle := Nat.le_of_eq hdb
  have hge := Nat.le_of_eq hdb.symm
  have hbW := b5.lt
  clear hdb
  go_loopg [17] zs.length (fun gk i wr => SumRel W zs (b + 1 + 1) gk i wr)
  case atStart => exact ⟨0, by omega, by omega, rfl, b5, Mod.refl _ _⟩
  case round =>
    obtain ⟨k, rfl, hk, rfl, hb, h1⟩ := hrel
    have hs1 := sumTo_nonneg (f := zAt zs) k (fun i hi => (HZ.out _ (zAt_mem zs (by omega))).1)
    have hs2 := sumTo_le (f := zAt zs) (M := 2000) k (fun i hi => (HZ.out _ (zAt_mem zs (by omega))).2)
    by_cases hlt : k < zs.length
    · obtain ⟨g, off, rfl, hrow⟩ := hv0.row (by omega)
      have hne : g ≠ b + 1 + 1 := by
        have h2 := hv.row (by omega)
        obtain ⟨g', off', hA, hrow'⟩ := h2
        injection hA with hA
        injection hA with hg
        have := hrow'.lt
        omega
      have hq := (hrow.mod h1 hne).cell (intsV_get zs k hlt)
      have q5 := hb.cell 0
      have f5 := hb.frozen 0
      simp at q5
      have hzk := HZ.out _ (List.getElem_mem hlt)
      have HT : Hid (sumTo (zAt zs) (k + 1) = sumTo (zAt zs) k + zs[k]) := by
        show sumTo (zAt zs) (k + 1) = _
        simp only [sumTo]
        rw [zAt_lt zs hlt]
      clear hrow
      generalize zs[k] = y at *
      generalize sumTo (zAt zs) k = t0 at *
      go_wp2_with fail
      go_roundg (zs.length - (k + 1))
      case measure => omega
      case rel =>
        refine ⟨k + 1, rfl, hlt, by simp, ?_, Mod.setCell (S := fun j => j = b + 1 + 1) (p := ⟨b + 1 + 1, 0, none⟩) h1 (.inl rfl) _⟩
        have hset := hb.set 0 (.int .i64 (t0 + y))
        rw [HT.out]
        simpa using hset
    · have hke : k = zs.length := by omega
      subst hke
      have HS : Hid (sumTo (zAt zs) zs.length = sumZ zs) := rfl
      generalize hsum : sumTo (zAt zs) zs.length = sum at *
      have HSUM : Hid (sumZ zs = sum) := hsum
      clear hsum HS hlt hk
      have c2 := (b2.mod h1 (by omega)).cell 0
      have c3 := (b3.mod h1 (by omega)).cell 0
      have c5 := hb.cell 0
      simp at c2 c3 c5
      have B0 := Blk.new wr 3 (intsV (List.replicate zs.length 0)).toArray
      have d2 := cell_alloc c2 (.cells (intsV (List.replicate zs.length 0)).toArray 3)
      have d3 := cell_alloc c3 (.cells (intsV (List.replicate zs.length 0)).toArray 3)
      have d5 := cell_alloc c5 (.cells (intsV (List.replicate zs.length 0)).toArray 3)
      have m1 : Pure w (wr.alloc (.cells (intsV (List.replicate zs.length 0)).toArray 3)) := (m0.trans' h1 (fun i hi hlt => by omega)).alloc _
      have hv1 := hv.pure m1
      have hbig : b + 1 + 1 < wr.heap.size := hb.lt
      by_cases hms : sum ≤ many
      · have hnews : ∀ j u, (intsV zs)[j]? = some u → ∀ g off, A = some ⟨g, off, none⟩ → (wr.alloc (.cells (intsV (List.replicate zs.length 0)).toArray 3)).cell? ((⟨g, off, none⟩ : Addr).add j) = some u := by
          intro j u hu g off hA
          subst hA
          have hpos : 0 < zs.length := by
            rcases Nat.eq_zero_or_pos zs.length with h | h
            · have : zs = [] := List.eq_nil_of_length_eq_zero h
              subst this
              simp [intsV] at hu
            · exact h
          obtain ⟨g', off', hA, hrow⟩ := hv1.row hpos
          injection hA with hA
          injection hA with hg ho
          subst hg ho
          exact news_of_row hrow j u hu
        have HN := Lib.hid hnews
        clear hnews
        go_wp2_with (refine wpList_copy_splice (o := ⟨some 33, _, _, _, _, _⟩) rfl (.tmp 31) (.tmp 32) 22 22 rfl 3 Try.underlying22 (by kernel_rfl) _ _ _ _ _ _ rfl rfl wr.heap.size 0 (intsV (List.replicate zs.length 0)) 3 B0 (intsV zs) (by simp [intsV]) (fun h => ⟨rfl, ?_⟩) (by simp [intsV]) (intsV_one zs) w.heap.size w m1.below (by omega) ?_; rotate_left; intro w2 HG2 hB2)
        · go_ret
          refine ⟨zs, _, zs.length, .inl ⟨by rw [HSUM.out]; exact hms, rfl⟩, rfl, own_of_blk (t := 3) ?_ (by omega) (by simp [intsV]) (by omega), Mod.of_below hB2⟩
          have h := HG2.out
          rw [splice_all (by simp [intsV])] at h
          exact h
        · rcases Nat.eq_zero_or_pos zs.length with h0 | h0
          · simp [intsV] at h
            omega
          · obtain ⟨g', off', hA, _⟩ := hv1.row h0
            exact ⟨_, hA, fun j u hu => HN.out j u hu _ _ hA⟩
      · have hn1 : 0 < zs.length := by
          rcases Nat.eq_zero_or_pos zs.length with h | h
          · exfalso
            have e : sumZ zs = 0 := by unfold sumZ; rw [h]; rfl
            rw [HSUM.out] at e
            omega
          · exact h
        have hlb := left_bounds zs many (sum := sum) HSUM.out (by omega)
        have hs2' : sum ≤ 40000 := by omega
        obtain ⟨g, off, rfl, hrow⟩ := hv1.row hn1
        have hgw : g < b := by
          obtain ⟨g', off', hA, hrow'⟩ := hv.row hn1
          injection hA with hA
          injection hA with hg
          have := hrow'.lt
          omega
        go_wp2_with fail
        rw [← qRow_zero (quoA zs many sum)] at B0 m1 hv1 hrow d2 d3 d5 ⊢
        have hszW : (wr.alloc (.cells (intsV (qRow (quoA zs many sum) zs.length 0)).toArray 3)).heap.size ≤ wr.heap.size + 1 := by simp
        generalize (wr.alloc (.cells (intsV (qRow (quoA zs many sum) zs.length 0)).toArray 3)) = W2 at *
        generalize hdb : wr.heap.size = gO at *
        have hleO := Nat.le_of_eq hdb
        clear hdb c2 c3 c5 hmk
        go_loopg [9, 10, 38] zs.length (fun gk l o i wr => QuoRel W2 zs many sum gO gk l o i wr)
        case atStart => exact ⟨0, none, 0, by omega, by omega, rfl, by simp [sumTo], rfl, ⟨by simp [natsV], .inl ⟨rfl, rfl⟩⟩, B0, Mod.refl _ _⟩
        case round =>
          obtain ⟨k, A, cap, rfl, hk, rfl, rfl, rfl, hown, hbk, h2⟩ := hrel
          by_cases hlt : k < zs.length
          · have hq := (hrow.mod h2 (by omega)).cell (intsV_get zs k hlt)
            have hzk := HZ.out _ (List.getElem_mem hlt)
            have qb := quoA_bounds zs HZ.out hm (show 0 < sum by omega) hlt
            have qs := quoSum_bounds zs HZ.out hm (show 0 < sum by omega) (show k ≤ zs.length by omega)
            have e2 := h2.keep d2 (by show ¬ b = gO; omega)
            have e3 := h2.keep d3 (by show ¬ b + 1 = gO; omega)
            have e5 := h2.keep d5 (by show ¬ b + 1 + 1 = gO; omega)
            have qc := (hbk.cell k).trans (qRow_get _ _ _ hlt)
            have qf := hbk.frozen k
            have hzE : zs.getD k 0 = zs[k] := by simp [List.getD, hlt]
            have HQ : Hid (many * zs[k] / sum = quoA zs many sum k) := by
              show many * zs[k] / sum = quoA zs many sum k
              unfold quoA
              rw [hzE]
            have HT : Hid (sumTo (quoA zs many sum) (k + 1) = sumTo (quoA zs many sum) k + quoA zs many sum k) := rfl
            clear hzE
            generalize zs[k] = y at *
            have a1 : 0 ≤ many * y := Int.mul_nonneg hm.1 hzk.1
            have a2 : many * y ≤ 2000 * 2000 := Int.mul_le_mul hm.2 hzk.2 hzk.1 (by omega)
            have a3 : 0 ≤ many * y / sum := by rw [HQ.out]; exact qb.1
            have a4 : many * y / sum ≤ 4000000 := by rw [HQ.out]; exact qb.2
            have m2 : Mod (fun j => j = gO) W2 (wr.setCell ⟨gO, k, none⟩ (.int .i64 (many * y / sum))) := Mod.setCell (S := fun j => j = gO) (p := ⟨gO, k, none⟩) h2 (.inl rfl) _
            have m3 : Mod (fun j => j = gO) wr (wr.setCell ⟨gO, k, none⟩ (.int .i64 (many * y / sum))) := Mod.setCell (S := fun j => j = gO) (p := ⟨gO, k, none⟩) (Mod.refl _ _) (.inl rfl) _
            have hown2 := own_mod hown m3 (fun g hg => by have := own_block hown g hg; omega)
            have hset : Blk (wr.setCell ⟨gO, k, none⟩ (.int .i64 (many * y / sum))) gO 3 (intsV (qRow (quoA zs many sum) zs.length (k + 1))).toArray := by
              have h := hbk.set k (.int .i64 (quoA zs many sum k))
              rw [qRow_set _ _ _ hlt] at h
              rw [HQ.out]
              exact h
            have HSET := Lib.hid hset
            have hgO := B0.lt
            clear hset hown
            generalize sumTo (quoA zs many sum) k = q0 at *
            go_upto_region 18 with (fail)
            generalize (wr.setCell ⟨gO, k, none⟩ (.int .i64 (many * y / sum))) = w1 at *
            go_wp2_with (at_builtin; refine wpList_append_lies _ rfl _ _ _ rfl (gO + 1) 3 i0 _ 1 8 Try.underlying22 hi0 hz0 hz1 hz2 rfl (by omega) (.slice A k cap) k (natsV (List.range k)) rfl (hown2.alloc _) ⟨w1.heap.size, 0, none⟩ 1 1 [.int .i64 (k : Int)] rfl rfl (World.news_of_block (cs := #[.int .i64 (k : Int)]) (t := 3) (fr := (0, 0)) (heap_alloc_new w1 _)) (by simp [Value.oneCell']) (by omega) (by simp [maxLen]; omega) (by omega) (by have := m2.size; simp; omega) (w1.heap.size + 1) (by simp) ?_; intro g5 cap5 w5 hown5 hgrow hat hlt5)
            go_roundg (zs.length - (k + 1))
            case measure => omega
            case rel =>
              refine ⟨k + 1, some ⟨g5, 0, none⟩, cap5, rfl, hlt, by simp, ?_, rfl, ?_, ?_, ?_⟩
              · rw [HT.out, ← HQ.out]
                congr 1
                omega
              · have e : natsV (List.range (k + 1)) = natsV (List.range k) ++ [.int .i64 (k : Int)] := by simp [natsV, List.range_succ]
                rw [e]
                exact hown5
              · exact (HSET.out.alloc _).grown hgrow (fun h => by have := own_block hown2 gO h.symm; omega)
              · exact (m2.alloc _).grown hgrow (fun k hk => .inr (by have := own_block hown2 k hk; omega))
          · have hke : k = zs.length := by omega
            subst hke
            clear hlt hk
            obtain ⟨go, cap', hform, hgo1, hgo2, hco, _⟩ := own_form hown hn1
            injection hform with hA _ hC
            subst hA hC
            rw [qRow_full] at hbk
            change Blk wr gO 3 (intsV (quos zs many sum)).toArray at hbk
            have HL : Hid (leftZ zs many sum = (many - sumTo (quoA zs many sum) zs.length).toNat) := rfl
            obtain ⟨l, hll⟩ := Int.eq_ofNat_of_zero_le hlb.1
            rw [hll] at hlb HL ⊢
            rw [Int.toNat_natCast] at HL
            have hl2 : l < zs.length := by omega
            clear hll hlb
            have e2 := h2.keep d2 (by show ¬ b = gO; omega)
            have e3 := h2.keep d3 (by show ¬ b + 1 = gO; omega)
            have e5 := h2.keep d5 (by show ¬ b + 1 + 1 = gO; omega)
            have hv2 : Sl wr 3 1 (.slice (some ⟨g, off, none⟩) zs.length c) (intsV zs) := ⟨_, _, _, rfl, hnc, hcc, by simp [intsV], fun _ => ⟨g, off, rfl, hrow.mod h2 (by omega)⟩⟩
            have hF : ∀ (x y : Nat) (W : World), x < zs.length → y < zs.length → Mod (fun j => j = go) wr W → Calls Try.prog 122 #[.int .i64 (x : Int), .int .i64 (y : Int), .pointer (some ⟨b + 1, 0, none⟩), .pointer (some ⟨b, 0, none⟩), .pointer (some ⟨b + 1 + 1, 0, none⟩)] W (IntPost W (remA zs many sum y - remA zs many sum x)) := by
              intro x y W hx hy hM
              exact cmp_calls W zs many sum _ c _ _ _ x y hx hy hm (by omega) HZ.out (hM.keep e3 (by show ¬ b + 1 = go; omega)) (hM.keep e2 (by show ¬ b = go; omega)) (hM.keep e5 (by show ¬ b + 1 + 1 = go; omega))
                ⟨_, _, _, rfl, hnc, hcc, by simp [intsV], fun _ => ⟨g, off, rfl, (hrow.mod h2 (by omega)).mod hM (by omega)⟩⟩
            have HF := Lib.hid hF
            clear hF
            have hfb : ∀ i, i < zs.length → 0 ≤ remA zs many sum i ∧ remA zs many sum i ≤ 1000000000 := by
              intro i hi
              unfold remA
              have b1 := Int.emod_nonneg (many * zs.getD i 0) (show sum ≠ 0 by omega)
              have b2 := Int.emod_lt_of_pos (many * zs.getD i 0) (show 0 < sum by omega)
              omega
            have HFB := Lib.hid hfb
            clear hfb
            go_wp2_with fail
            refine (stable_calls wr (gO + 1) go cap zs.length 122 _ _ _ (remA zs many sum) (by omega) hl HFB.out hown (fun _ _ _ => rfl) HF.out).mono ?_
            rintro e w3 ⟨s, hord, rfl, hown3, h3⟩
            have hsl := hord.len
            have HSL := Lib.hid hsl
            clear hsl HF e2 e3 e5 hown
            have hbk3 := hbk.mod h3 (by omega)
            have l1 : (l : Int) ≤ (cap : Int) := by omega
            have l2 : l ≤ cap := by omega
            have l3 : (0 : Int) ≤ (l : Int) := by omega
            go_wp2_with fail
            go_loopg [69] l (fun gk i wr => IncRel w3 zs many sum s gO l gk i wr)
            case atStart => exact ⟨0, by omega, by omega, rfl, hbk3, Mod.refl _ _⟩
            case round =>
              clear hbk3
              obtain ⟨k, rfl, hk, rfl, hb4, h4⟩ := hrel
              by_cases hlt : k < l
              · have hks : k < s.length := by rw [HSL.out]; omega
                have hq := (hown3.cellAt k (by omega)).trans (natsV_get s k hks)
                have hq := h4.keep hq (by show ¬ go = gO; omega)
                have hsk : s[k] < zs.length := hord.lt (List.getElem_mem _)
                have HT : Hid (s.take (k + 1) = s.take k ++ [s[k]]) := List.take_succ_eq_append_getElem hks
                have hil : (incs (quos zs many sum) (s.take k)).length = zs.length := by rw [incs_len]; simp [quos]
                have hmem : (incs (quos zs many sum) (s.take k)).getD s[k] 0 ∈ incs (quos zs many sum) (s.take k) := by
                  simp only [List.getD]
                  rw [List.getElem?_eq_getElem (by omega)]
                  exact List.getElem_mem _
                have hbd := incs_mem (s.take k) (quos zs many sum) 4000000 (fun x hx => by
                  simp only [quos, List.mem_map, List.mem_range] at hx
                  obtain ⟨i, hi, rfl⟩ := hx
                  exact quoA_bounds zs HZ.out hm (by omega) hi) (fun p hp => by
                  rw [show (quos zs many sum).length = zs.length by simp [quos]]
                  exact hord.lt (List.mem_of_mem_take hp)) _ hmem
                have htl : (s.take k).length ≤ 20 := by rw [List.length_take]; omega
                have hq2 : (intsV (incs (quos zs many sum) (s.take k))).toArray[s[k]]? = some (.int .i64 ((incs (quos zs many sum) (s.take k)).getD s[k] 0)) := by
                  rw [List.getElem?_toArray, intsV_get _ _ (by omega)]
                  simp only [List.getD]
                  rw [List.getElem?_eq_getElem (by omega)]
                  rfl
                have qc := (hb4.cell s[k]).trans hq2
                have qf := hb4.frozen s[k]
                have HS : Hid (Blk (wr.setCell ⟨gO, s[k], none⟩ (.int .i64 ((incs (quos zs many sum) (s.take k)).getD s[k] 0 + 1))) gO 3 (intsV (incs (quos zs many sum) (s.take k ++ [s[k]]))).toArray) := by
                  have h := hb4.set s[k] (.int .i64 ((incs (quos zs many sum) (s.take k)).getD s[k] 0 + 1))
                  show Blk _ _ _ _
                  rw [incs_snoc]
                  have e : (intsV (incs (quos zs many sum) (s.take k))).toArray.setIfInBounds s[k] (.int .i64 ((incs (quos zs many sum) (s.take k)).getD s[k] 0 + 1)) = (intsV ((incs (quos zs many sum) (s.take k)).set s[k] ((incs (quos zs many sum) (s.take k)).getD s[k] 0 + 1))).toArray := by
                    apply Array.ext'
                    simp [intsV, List.map_set]
                  rw [e] at h
                  exact h
                clear hq2 hmem hil
                generalize s[k] = p at *
                generalize (incs (quos zs many sum) (s.take k)).getD p 0 = x at *
                have x1 : (0 : Int) ≤ x := hbd.1
                have x2 : x ≤ 5000000 := by omega
                go_wp2_with fail
                go_roundg (l - (k + 1))
                case measure => omega
                case rel =>
                  refine ⟨k + 1, rfl, hlt, by simp, ?_, Mod.setCell (S := fun j => j = gO) (p := ⟨gO, p, none⟩) h4 (.inl rfl) _⟩
                  rw [HT.out]
                  exact HS.out
              · have hke : k = l := by omega
                subst hke
                go_wp2_with fail
                go_ret
                refine ⟨_, _, zs.length, .inr ⟨by rw [HSUM.out]; omega, s, by rw [HSUM.out]; exact hord, rfl⟩, rfl, own_of_blk (t := 3) ?_ (by omega) ?_ (by omega), ?_⟩
                · rw [HSUM.out, HL.out]
                  exact hb4
                · simp [intsV, incs_len, quos]
                · exact ((m1.trans' h2 (fun i hi hlt => by omega)).trans' h3 (fun i hi hlt => by omega)).trans' h4 (fun i hi hlt => by omega)

end Go.Proofs.Ytpacmdiodnnofaa
